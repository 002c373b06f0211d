/-
  What the program's functions answer: the printed functions' answers.
-/
import Derived.Test.YtjkgphpmdkbpfaaDoorVG5
namespace Go.Proofs.YtjkgphpmdkbpfaaDoor.V
open Go Go.AX
/-! cadastre/arith.Do -/
noncomputable def arith_Do_code : Code := match Tryd.f60.body with | some c => c | none => .skip
theorem arith_Do_body : Tryd.f60.body = some arith_Do_code := by kernel_rfl
noncomputable def arith_Do_G {ρ : Type} (k : Nat) : Ans UX ρ := gk 22 (value_All_an k) (gk 69 (arith_reckon_an k) (gk 65 (value_Int_an k) (gnil)))
theorem arith_Do_gok {ρ : Type} (k : Nat) : GOK Tryd.prog (arith_Do_G (ρ := ρ) k) := gok_cons (value_All_ok k) (gok_cons (arith_reckon_ok k) (gok_cons (value_Int_ok k) (gok_nil)))
noncomputable def arith_Do_j7_s {ρ : Type} (k : Nat) : Run UX ρ := fun s K =>
popS 0 s.env fun v1 e2 =>
asI .i64 v1 fun op0 =>
popS 4 e2 fun v3 e4 =>
asP 4 0 v3 <|
popS 5 e4 fun v5 e6 =>
asP 5 0 v5 <|
popS 6 e6 fun v7 e8 =>
asP 6 0 v7 <|
popN e8 <|
popB 4 s.hp fun c9 e10 =>
popA c9 fun v11 c12 =>
asI .i64 v11 fun z13 =>
popA c12 fun v14 c15 =>
asI .i64 v14 fun z16 =>
popA c15 fun v17 c18 =>
asS v17 fun z19 =>
popN c18 <|
popB 5 e10 fun c20 e21 =>
popA c20 fun v22 c23 =>
asI .i64 v22 fun z24 =>
popA c23 fun v25 c26 =>
asI .i64 v25 fun z27 =>
popA c26 fun v28 c29 =>
asS v28 fun z30 =>
popN c29 <|
popB 6 e21 fun c31 e32 =>
popA c31 fun v33 c34 =>
asI .i64 v33 fun z35 =>
popA c34 fun v36 c37 =>
asI .i64 v36 fun z38 =>
popA c37 fun v39 c40 =>
asS v39 fun z41 =>
popN c40 <|
popN e32 <|
arith_Do_j7 k (fun t7 t6 => K .ret ⟨[(6, .ptr 6 0), (7, .pv (.int .i64 t7))], [(6, [.pv (.int .i64 t6.f0), .pv (.int .i64 t6.f1), .pv (.str t6.f2)])]⟩) (fun op0 a4 b5 t6 => K .nxt ⟨[(0, .pv (.int .i64 op0)), (4, .ptr 4 0), (5, .ptr 5 0), (6, .ptr 6 0)], [(4, [.pv (.int .i64 a4.f0), .pv (.int .i64 a4.f1), .pv (.str a4.f2)]), (5, [.pv (.int .i64 b5.f0), .pv (.int .i64 b5.f1), .pv (.str b5.f2)]), (6, [.pv (.int .i64 t6.f0), .pv (.int .i64 t6.f1), .pv (.str t6.f2)])]⟩) op0 (⟨z13, z16, z19⟩ : S29) (⟨z24, z27, z30⟩ : S29) (⟨z35, z38, z41⟩ : S29)
noncomputable def arith_Do_j5_s {ρ : Type} (k : Nat) : Run UX ρ := fun s K =>
popS 0 s.env fun v1 e2 =>
asI .i64 v1 fun op0 =>
popS 4 e2 fun v3 e4 =>
asP 4 0 v3 <|
popS 5 e4 fun v5 e6 =>
asP 5 0 v5 <|
popS 6 e6 fun v7 e8 =>
asP 6 0 v7 <|
popN e8 <|
popB 4 s.hp fun c9 e10 =>
popA c9 fun v11 c12 =>
asI .i64 v11 fun z13 =>
popA c12 fun v14 c15 =>
asI .i64 v14 fun z16 =>
popA c15 fun v17 c18 =>
asS v17 fun z19 =>
popN c18 <|
popB 5 e10 fun c20 e21 =>
popA c20 fun v22 c23 =>
asI .i64 v22 fun z24 =>
popA c23 fun v25 c26 =>
asI .i64 v25 fun z27 =>
popA c26 fun v28 c29 =>
asS v28 fun z30 =>
popN c29 <|
popB 6 e21 fun c31 e32 =>
popA c31 fun v33 c34 =>
asI .i64 v33 fun z35 =>
popA c34 fun v36 c37 =>
asI .i64 v36 fun z38 =>
popA c37 fun v39 c40 =>
asS v39 fun z41 =>
popN c40 <|
popN e32 <|
arith_Do_j5 k (fun t7 t6 => K .ret ⟨[(6, .ptr 6 0), (7, .pv (.int .i64 t7))], [(6, [.pv (.int .i64 t6.f0), .pv (.int .i64 t6.f1), .pv (.str t6.f2)])]⟩) (fun op0 a4 b5 t6 => K .nxt ⟨[(0, .pv (.int .i64 op0)), (4, .ptr 4 0), (5, .ptr 5 0), (6, .ptr 6 0)], [(4, [.pv (.int .i64 a4.f0), .pv (.int .i64 a4.f1), .pv (.str a4.f2)]), (5, [.pv (.int .i64 b5.f0), .pv (.int .i64 b5.f1), .pv (.str b5.f2)]), (6, [.pv (.int .i64 t6.f0), .pv (.int .i64 t6.f1), .pv (.str t6.f2)])]⟩) op0 (⟨z13, z16, z19⟩ : S29) (⟨z24, z27, z30⟩ : S29) (⟨z35, z38, z41⟩ : S29)
noncomputable def arith_Do_j3_s {ρ : Type} (k : Nat) : Run UX ρ := fun s K =>
popS 0 s.env fun v1 e2 =>
asI .i64 v1 fun op0 =>
popS 4 e2 fun v3 e4 =>
asP 4 0 v3 <|
popS 5 e4 fun v5 e6 =>
asP 5 0 v5 <|
popS 6 e6 fun v7 e8 =>
asP 6 0 v7 <|
popN e8 <|
popB 4 s.hp fun c9 e10 =>
popA c9 fun v11 c12 =>
asI .i64 v11 fun z13 =>
popA c12 fun v14 c15 =>
asI .i64 v14 fun z16 =>
popA c15 fun v17 c18 =>
asS v17 fun z19 =>
popN c18 <|
popB 5 e10 fun c20 e21 =>
popA c20 fun v22 c23 =>
asI .i64 v22 fun z24 =>
popA c23 fun v25 c26 =>
asI .i64 v25 fun z27 =>
popA c26 fun v28 c29 =>
asS v28 fun z30 =>
popN c29 <|
popB 6 e21 fun c31 e32 =>
popA c31 fun v33 c34 =>
asI .i64 v33 fun z35 =>
popA c34 fun v36 c37 =>
asI .i64 v36 fun z38 =>
popA c37 fun v39 c40 =>
asS v39 fun z41 =>
popN c40 <|
popN e32 <|
arith_Do_j3 k (fun t7 t6 => K .ret ⟨[(6, .ptr 6 0), (7, .pv (.int .i64 t7))], [(6, [.pv (.int .i64 t6.f0), .pv (.int .i64 t6.f1), .pv (.str t6.f2)])]⟩) (fun op0 a4 b5 t6 => K .nxt ⟨[(0, .pv (.int .i64 op0)), (4, .ptr 4 0), (5, .ptr 5 0), (6, .ptr 6 0)], [(4, [.pv (.int .i64 a4.f0), .pv (.int .i64 a4.f1), .pv (.str a4.f2)]), (5, [.pv (.int .i64 b5.f0), .pv (.int .i64 b5.f1), .pv (.str b5.f2)]), (6, [.pv (.int .i64 t6.f0), .pv (.int .i64 t6.f1), .pv (.str t6.f2)])]⟩) op0 (⟨z13, z16, z19⟩ : S29) (⟨z24, z27, z30⟩ : S29) (⟨z35, z38, z41⟩ : S29)
noncomputable def arith_Do_j9_s {ρ : Type} (k : Nat) : Run UX ρ := fun s K =>
popS 0 s.env fun v1 e2 =>
asI .i64 v1 fun op0 =>
popS 4 e2 fun v3 e4 =>
asP 4 0 v3 <|
popS 5 e4 fun v5 e6 =>
asP 5 0 v5 <|
popS 6 e6 fun v7 e8 =>
asP 6 0 v7 <|
popN e8 <|
popB 4 s.hp fun c9 e10 =>
popA c9 fun v11 c12 =>
asI .i64 v11 fun z13 =>
popA c12 fun v14 c15 =>
asI .i64 v14 fun z16 =>
popA c15 fun v17 c18 =>
asS v17 fun z19 =>
popN c18 <|
popB 5 e10 fun c20 e21 =>
popA c20 fun v22 c23 =>
asI .i64 v22 fun z24 =>
popA c23 fun v25 c26 =>
asI .i64 v25 fun z27 =>
popA c26 fun v28 c29 =>
asS v28 fun z30 =>
popN c29 <|
popB 6 e21 fun c31 e32 =>
popA c31 fun v33 c34 =>
asI .i64 v33 fun z35 =>
popA c34 fun v36 c37 =>
asI .i64 v36 fun z38 =>
popA c37 fun v39 c40 =>
asS v39 fun z41 =>
popN c40 <|
popN e32 <|
arith_Do_j9 k (fun t7 t6 => K .ret ⟨[(6, .ptr 6 0), (7, .pv (.int .i64 t7))], [(6, [.pv (.int .i64 t6.f0), .pv (.int .i64 t6.f1), .pv (.str t6.f2)])]⟩) op0 (⟨z13, z16, z19⟩ : S29) (⟨z24, z27, z30⟩ : S29) (⟨z35, z38, z41⟩ : S29)
noncomputable def arith_Do_cfg {ρ : Type} (k : Nat) : Cfg UX ρ where
  live i := (assoc [(0, [0, 1, 2]), (1, [0, 4, 5, 6]), (2, [6]), (3, [0, 4, 5, 6]), (4, [6]), (5, [0, 4, 5, 6]), (6, [6]), (7, [0, 4, 5, 6]), (8, [6]), (9, [0, 4, 5, 6]), (10, [6, 8, 9]), (11, [6, 9]), (12, [6, 8])] i).getD []
  boxes i := (assoc [(0, []), (1, [4, 5, 6]), (2, [6]), (3, [4, 5, 6]), (4, [6]), (5, [4, 5, 6]), (6, [6]), (7, [4, 5, 6]), (8, [6]), (9, [4, 5, 6]), (10, [6]), (11, [6]), (12, [6])] i).getD []
  tk i := (assoc [] i).getD []
  n := 73
  labelR l := (assoc [] l).getD 0
  loops := assoc []
  labels := assoc []
  joins := assoc [(7, arith_Do_j7_s k), (5, arith_Do_j5_s k), (3, arith_Do_j3_s k), (9, arith_Do_j9_s k)]
  xl i e := match e with
    | .nxt => assoc [(7, ([0, 4, 5, 6], [4, 5, 6])), (5, ([0, 4, 5, 6], [4, 5, 6])), (3, ([0, 4, 5, 6], [4, 5, 6]))] i
    | .ret => assoc [(7, ([6, 7], [6])), (5, ([6, 7], [6])), (3, ([6, 7], [6])), (9, ([6, 7], [6]))] i
    | .exit j => (assoc [] i).bind fun l => assoc l j
    | .goto j => (assoc [] i).bind fun l => assoc l j
noncomputable def arith_Do_L : List Code := selI [] (loopsOf arith_Do_code)
noncomputable def arith_Do_J : List Code := selI [7, 5, 3, 9] (joinsOf arith_Do_code)
noncomputable def arith_Do_S : List Code := scopesOf arith_Do_code
theorem arith_Do_j9_eq0 {ρ : Type} (k : Nat) (K : Ex → St UU → Option ρ) (op0 : Int) (a4 : S29) (b5 : S29) (t6 : S29) : exec UX (arith_Do_cfg k) (arith_Do_G k) (arith_Do_J.getD 0 .skip) ⟨[(0, .pv (.int .i64 op0)), (4, .ptr 4 0), (5, .ptr 5 0), (6, .ptr 6 0)], [(4, [.pv (.int .i64 a4.f0), .pv (.int .i64 a4.f1), .pv (.str a4.f2)]), (5, [.pv (.int .i64 b5.f0), .pv (.int .i64 b5.f1), .pv (.str b5.f2)]), (6, [.pv (.int .i64 t6.f0), .pv (.int .i64 t6.f1), .pv (.str t6.f2)])]⟩ (nrmK UX (arith_Do_cfg k) 9 K) = arith_Do_j9 k (fun t7 t6 => K .ret ⟨[(6, .ptr 6 0), (7, .pv (.int .i64 t7))], [(6, [.pv (.int .i64 t6.f0), .pv (.int .i64 t6.f1), .pv (.str t6.f2)])]⟩) op0 a4 b5 t6 := by kernel_rfl
theorem arith_Do_j9_ok0 {ρ : Type} (k : Nat) : JoinOK UX (arith_Do_cfg (ρ := ρ) k) (arith_Do_G k) (arith_Do_J.getD 0 .skip) 9 (arith_Do_j9_s k) := by
  intro s K r h
  obtain ⟨env, hp⟩ := s
  unfold arith_Do_j9_s at h
  replace h := popS_inv h; obtain ⟨v1, e2, rfl, h⟩ := h
  replace h := asI_inv h; obtain ⟨op0, rfl, h⟩ := h
  replace h := popS_inv h; obtain ⟨v3, e4, rfl, h⟩ := h
  replace h := asP_inv h; obtain ⟨rfl, h⟩ := h
  replace h := popS_inv h; obtain ⟨v5, e6, rfl, h⟩ := h
  replace h := asP_inv h; obtain ⟨rfl, h⟩ := h
  replace h := popS_inv h; obtain ⟨v7, e8, rfl, h⟩ := h
  replace h := asP_inv h; obtain ⟨rfl, h⟩ := h
  replace h := popN_inv h; obtain ⟨rfl, h⟩ := h
  replace h := popB_inv h; obtain ⟨c9, e10, rfl, h⟩ := h
  replace h := popA_inv h; obtain ⟨v11, c12, rfl, h⟩ := h
  replace h := asI_inv h; obtain ⟨z13, rfl, h⟩ := h
  replace h := popA_inv h; obtain ⟨v14, c15, rfl, h⟩ := h
  replace h := asI_inv h; obtain ⟨z16, rfl, h⟩ := h
  replace h := popA_inv h; obtain ⟨v17, c18, rfl, h⟩ := h
  replace h := asS_inv h; obtain ⟨z19, rfl, h⟩ := h
  replace h := popN_inv h; obtain ⟨rfl, h⟩ := h
  replace h := popB_inv h; obtain ⟨c20, e21, rfl, h⟩ := h
  replace h := popA_inv h; obtain ⟨v22, c23, rfl, h⟩ := h
  replace h := asI_inv h; obtain ⟨z24, rfl, h⟩ := h
  replace h := popA_inv h; obtain ⟨v25, c26, rfl, h⟩ := h
  replace h := asI_inv h; obtain ⟨z27, rfl, h⟩ := h
  replace h := popA_inv h; obtain ⟨v28, c29, rfl, h⟩ := h
  replace h := asS_inv h; obtain ⟨z30, rfl, h⟩ := h
  replace h := popN_inv h; obtain ⟨rfl, h⟩ := h
  replace h := popB_inv h; obtain ⟨c31, e32, rfl, h⟩ := h
  replace h := popA_inv h; obtain ⟨v33, c34, rfl, h⟩ := h
  replace h := asI_inv h; obtain ⟨z35, rfl, h⟩ := h
  replace h := popA_inv h; obtain ⟨v36, c37, rfl, h⟩ := h
  replace h := asI_inv h; obtain ⟨z38, rfl, h⟩ := h
  replace h := popA_inv h; obtain ⟨v39, c40, rfl, h⟩ := h
  replace h := asS_inv h; obtain ⟨z41, rfl, h⟩ := h
  replace h := popN_inv h; obtain ⟨rfl, h⟩ := h
  replace h := popN_inv h; obtain ⟨rfl, h⟩ := h
  exact (arith_Do_j9_eq0 k K op0 (⟨z13, z16, z19⟩ : S29) (⟨z24, z27, z30⟩ : S29) (⟨z35, z38, z41⟩ : S29)).trans h
theorem arith_Do_j3_eq1 {ρ : Type} (k : Nat) (K : Ex → St UU → Option ρ) (op0 : Int) (a4 : S29) (b5 : S29) (t6 : S29) : exec UX (arith_Do_cfg k) (arith_Do_G k) (arith_Do_J.getD 1 .skip) ⟨[(0, .pv (.int .i64 op0)), (4, .ptr 4 0), (5, .ptr 5 0), (6, .ptr 6 0)], [(4, [.pv (.int .i64 a4.f0), .pv (.int .i64 a4.f1), .pv (.str a4.f2)]), (5, [.pv (.int .i64 b5.f0), .pv (.int .i64 b5.f1), .pv (.str b5.f2)]), (6, [.pv (.int .i64 t6.f0), .pv (.int .i64 t6.f1), .pv (.str t6.f2)])]⟩ (nrmK UX (arith_Do_cfg k) 3 K) = arith_Do_j3 k (fun t7 t6 => K .ret ⟨[(6, .ptr 6 0), (7, .pv (.int .i64 t7))], [(6, [.pv (.int .i64 t6.f0), .pv (.int .i64 t6.f1), .pv (.str t6.f2)])]⟩) (fun op0 a4 b5 t6 => K .nxt ⟨[(0, .pv (.int .i64 op0)), (4, .ptr 4 0), (5, .ptr 5 0), (6, .ptr 6 0)], [(4, [.pv (.int .i64 a4.f0), .pv (.int .i64 a4.f1), .pv (.str a4.f2)]), (5, [.pv (.int .i64 b5.f0), .pv (.int .i64 b5.f1), .pv (.str b5.f2)]), (6, [.pv (.int .i64 t6.f0), .pv (.int .i64 t6.f1), .pv (.str t6.f2)])]⟩) op0 a4 b5 t6 := by kernel_rfl
theorem arith_Do_j3_ok1 {ρ : Type} (k : Nat) : JoinOK UX (arith_Do_cfg (ρ := ρ) k) (arith_Do_G k) (arith_Do_J.getD 1 .skip) 3 (arith_Do_j3_s k) := by
  intro s K r h
  obtain ⟨env, hp⟩ := s
  unfold arith_Do_j3_s at h
  replace h := popS_inv h; obtain ⟨v1, e2, rfl, h⟩ := h
  replace h := asI_inv h; obtain ⟨op0, rfl, h⟩ := h
  replace h := popS_inv h; obtain ⟨v3, e4, rfl, h⟩ := h
  replace h := asP_inv h; obtain ⟨rfl, h⟩ := h
  replace h := popS_inv h; obtain ⟨v5, e6, rfl, h⟩ := h
  replace h := asP_inv h; obtain ⟨rfl, h⟩ := h
  replace h := popS_inv h; obtain ⟨v7, e8, rfl, h⟩ := h
  replace h := asP_inv h; obtain ⟨rfl, h⟩ := h
  replace h := popN_inv h; obtain ⟨rfl, h⟩ := h
  replace h := popB_inv h; obtain ⟨c9, e10, rfl, h⟩ := h
  replace h := popA_inv h; obtain ⟨v11, c12, rfl, h⟩ := h
  replace h := asI_inv h; obtain ⟨z13, rfl, h⟩ := h
  replace h := popA_inv h; obtain ⟨v14, c15, rfl, h⟩ := h
  replace h := asI_inv h; obtain ⟨z16, rfl, h⟩ := h
  replace h := popA_inv h; obtain ⟨v17, c18, rfl, h⟩ := h
  replace h := asS_inv h; obtain ⟨z19, rfl, h⟩ := h
  replace h := popN_inv h; obtain ⟨rfl, h⟩ := h
  replace h := popB_inv h; obtain ⟨c20, e21, rfl, h⟩ := h
  replace h := popA_inv h; obtain ⟨v22, c23, rfl, h⟩ := h
  replace h := asI_inv h; obtain ⟨z24, rfl, h⟩ := h
  replace h := popA_inv h; obtain ⟨v25, c26, rfl, h⟩ := h
  replace h := asI_inv h; obtain ⟨z27, rfl, h⟩ := h
  replace h := popA_inv h; obtain ⟨v28, c29, rfl, h⟩ := h
  replace h := asS_inv h; obtain ⟨z30, rfl, h⟩ := h
  replace h := popN_inv h; obtain ⟨rfl, h⟩ := h
  replace h := popB_inv h; obtain ⟨c31, e32, rfl, h⟩ := h
  replace h := popA_inv h; obtain ⟨v33, c34, rfl, h⟩ := h
  replace h := asI_inv h; obtain ⟨z35, rfl, h⟩ := h
  replace h := popA_inv h; obtain ⟨v36, c37, rfl, h⟩ := h
  replace h := asI_inv h; obtain ⟨z38, rfl, h⟩ := h
  replace h := popA_inv h; obtain ⟨v39, c40, rfl, h⟩ := h
  replace h := asS_inv h; obtain ⟨z41, rfl, h⟩ := h
  replace h := popN_inv h; obtain ⟨rfl, h⟩ := h
  replace h := popN_inv h; obtain ⟨rfl, h⟩ := h
  exact (arith_Do_j3_eq1 k K op0 (⟨z13, z16, z19⟩ : S29) (⟨z24, z27, z30⟩ : S29) (⟨z35, z38, z41⟩ : S29)).trans h
theorem arith_Do_j5_eq2 {ρ : Type} (k : Nat) (K : Ex → St UU → Option ρ) (op0 : Int) (a4 : S29) (b5 : S29) (t6 : S29) : exec UX (arith_Do_cfg k) (arith_Do_G k) (arith_Do_J.getD 2 .skip) ⟨[(0, .pv (.int .i64 op0)), (4, .ptr 4 0), (5, .ptr 5 0), (6, .ptr 6 0)], [(4, [.pv (.int .i64 a4.f0), .pv (.int .i64 a4.f1), .pv (.str a4.f2)]), (5, [.pv (.int .i64 b5.f0), .pv (.int .i64 b5.f1), .pv (.str b5.f2)]), (6, [.pv (.int .i64 t6.f0), .pv (.int .i64 t6.f1), .pv (.str t6.f2)])]⟩ (nrmK UX (arith_Do_cfg k) 5 K) = arith_Do_j5 k (fun t7 t6 => K .ret ⟨[(6, .ptr 6 0), (7, .pv (.int .i64 t7))], [(6, [.pv (.int .i64 t6.f0), .pv (.int .i64 t6.f1), .pv (.str t6.f2)])]⟩) (fun op0 a4 b5 t6 => K .nxt ⟨[(0, .pv (.int .i64 op0)), (4, .ptr 4 0), (5, .ptr 5 0), (6, .ptr 6 0)], [(4, [.pv (.int .i64 a4.f0), .pv (.int .i64 a4.f1), .pv (.str a4.f2)]), (5, [.pv (.int .i64 b5.f0), .pv (.int .i64 b5.f1), .pv (.str b5.f2)]), (6, [.pv (.int .i64 t6.f0), .pv (.int .i64 t6.f1), .pv (.str t6.f2)])]⟩) op0 a4 b5 t6 := by kernel_rfl
theorem arith_Do_j5_ok2 {ρ : Type} (k : Nat) : JoinOK UX (arith_Do_cfg (ρ := ρ) k) (arith_Do_G k) (arith_Do_J.getD 2 .skip) 5 (arith_Do_j5_s k) := by
  intro s K r h
  obtain ⟨env, hp⟩ := s
  unfold arith_Do_j5_s at h
  replace h := popS_inv h; obtain ⟨v1, e2, rfl, h⟩ := h
  replace h := asI_inv h; obtain ⟨op0, rfl, h⟩ := h
  replace h := popS_inv h; obtain ⟨v3, e4, rfl, h⟩ := h
  replace h := asP_inv h; obtain ⟨rfl, h⟩ := h
  replace h := popS_inv h; obtain ⟨v5, e6, rfl, h⟩ := h
  replace h := asP_inv h; obtain ⟨rfl, h⟩ := h
  replace h := popS_inv h; obtain ⟨v7, e8, rfl, h⟩ := h
  replace h := asP_inv h; obtain ⟨rfl, h⟩ := h
  replace h := popN_inv h; obtain ⟨rfl, h⟩ := h
  replace h := popB_inv h; obtain ⟨c9, e10, rfl, h⟩ := h
  replace h := popA_inv h; obtain ⟨v11, c12, rfl, h⟩ := h
  replace h := asI_inv h; obtain ⟨z13, rfl, h⟩ := h
  replace h := popA_inv h; obtain ⟨v14, c15, rfl, h⟩ := h
  replace h := asI_inv h; obtain ⟨z16, rfl, h⟩ := h
  replace h := popA_inv h; obtain ⟨v17, c18, rfl, h⟩ := h
  replace h := asS_inv h; obtain ⟨z19, rfl, h⟩ := h
  replace h := popN_inv h; obtain ⟨rfl, h⟩ := h
  replace h := popB_inv h; obtain ⟨c20, e21, rfl, h⟩ := h
  replace h := popA_inv h; obtain ⟨v22, c23, rfl, h⟩ := h
  replace h := asI_inv h; obtain ⟨z24, rfl, h⟩ := h
  replace h := popA_inv h; obtain ⟨v25, c26, rfl, h⟩ := h
  replace h := asI_inv h; obtain ⟨z27, rfl, h⟩ := h
  replace h := popA_inv h; obtain ⟨v28, c29, rfl, h⟩ := h
  replace h := asS_inv h; obtain ⟨z30, rfl, h⟩ := h
  replace h := popN_inv h; obtain ⟨rfl, h⟩ := h
  replace h := popB_inv h; obtain ⟨c31, e32, rfl, h⟩ := h
  replace h := popA_inv h; obtain ⟨v33, c34, rfl, h⟩ := h
  replace h := asI_inv h; obtain ⟨z35, rfl, h⟩ := h
  replace h := popA_inv h; obtain ⟨v36, c37, rfl, h⟩ := h
  replace h := asI_inv h; obtain ⟨z38, rfl, h⟩ := h
  replace h := popA_inv h; obtain ⟨v39, c40, rfl, h⟩ := h
  replace h := asS_inv h; obtain ⟨z41, rfl, h⟩ := h
  replace h := popN_inv h; obtain ⟨rfl, h⟩ := h
  replace h := popN_inv h; obtain ⟨rfl, h⟩ := h
  exact (arith_Do_j5_eq2 k K op0 (⟨z13, z16, z19⟩ : S29) (⟨z24, z27, z30⟩ : S29) (⟨z35, z38, z41⟩ : S29)).trans h
theorem arith_Do_j7_eq3 {ρ : Type} (k : Nat) (K : Ex → St UU → Option ρ) (op0 : Int) (a4 : S29) (b5 : S29) (t6 : S29) : exec UX (arith_Do_cfg k) (arith_Do_G k) (arith_Do_J.getD 3 .skip) ⟨[(0, .pv (.int .i64 op0)), (4, .ptr 4 0), (5, .ptr 5 0), (6, .ptr 6 0)], [(4, [.pv (.int .i64 a4.f0), .pv (.int .i64 a4.f1), .pv (.str a4.f2)]), (5, [.pv (.int .i64 b5.f0), .pv (.int .i64 b5.f1), .pv (.str b5.f2)]), (6, [.pv (.int .i64 t6.f0), .pv (.int .i64 t6.f1), .pv (.str t6.f2)])]⟩ (nrmK UX (arith_Do_cfg k) 7 K) = arith_Do_j7 k (fun t7 t6 => K .ret ⟨[(6, .ptr 6 0), (7, .pv (.int .i64 t7))], [(6, [.pv (.int .i64 t6.f0), .pv (.int .i64 t6.f1), .pv (.str t6.f2)])]⟩) (fun op0 a4 b5 t6 => K .nxt ⟨[(0, .pv (.int .i64 op0)), (4, .ptr 4 0), (5, .ptr 5 0), (6, .ptr 6 0)], [(4, [.pv (.int .i64 a4.f0), .pv (.int .i64 a4.f1), .pv (.str a4.f2)]), (5, [.pv (.int .i64 b5.f0), .pv (.int .i64 b5.f1), .pv (.str b5.f2)]), (6, [.pv (.int .i64 t6.f0), .pv (.int .i64 t6.f1), .pv (.str t6.f2)])]⟩) op0 a4 b5 t6 := by kernel_rfl
theorem arith_Do_j7_ok3 {ρ : Type} (k : Nat) : JoinOK UX (arith_Do_cfg (ρ := ρ) k) (arith_Do_G k) (arith_Do_J.getD 3 .skip) 7 (arith_Do_j7_s k) := by
  intro s K r h
  obtain ⟨env, hp⟩ := s
  unfold arith_Do_j7_s at h
  replace h := popS_inv h; obtain ⟨v1, e2, rfl, h⟩ := h
  replace h := asI_inv h; obtain ⟨op0, rfl, h⟩ := h
  replace h := popS_inv h; obtain ⟨v3, e4, rfl, h⟩ := h
  replace h := asP_inv h; obtain ⟨rfl, h⟩ := h
  replace h := popS_inv h; obtain ⟨v5, e6, rfl, h⟩ := h
  replace h := asP_inv h; obtain ⟨rfl, h⟩ := h
  replace h := popS_inv h; obtain ⟨v7, e8, rfl, h⟩ := h
  replace h := asP_inv h; obtain ⟨rfl, h⟩ := h
  replace h := popN_inv h; obtain ⟨rfl, h⟩ := h
  replace h := popB_inv h; obtain ⟨c9, e10, rfl, h⟩ := h
  replace h := popA_inv h; obtain ⟨v11, c12, rfl, h⟩ := h
  replace h := asI_inv h; obtain ⟨z13, rfl, h⟩ := h
  replace h := popA_inv h; obtain ⟨v14, c15, rfl, h⟩ := h
  replace h := asI_inv h; obtain ⟨z16, rfl, h⟩ := h
  replace h := popA_inv h; obtain ⟨v17, c18, rfl, h⟩ := h
  replace h := asS_inv h; obtain ⟨z19, rfl, h⟩ := h
  replace h := popN_inv h; obtain ⟨rfl, h⟩ := h
  replace h := popB_inv h; obtain ⟨c20, e21, rfl, h⟩ := h
  replace h := popA_inv h; obtain ⟨v22, c23, rfl, h⟩ := h
  replace h := asI_inv h; obtain ⟨z24, rfl, h⟩ := h
  replace h := popA_inv h; obtain ⟨v25, c26, rfl, h⟩ := h
  replace h := asI_inv h; obtain ⟨z27, rfl, h⟩ := h
  replace h := popA_inv h; obtain ⟨v28, c29, rfl, h⟩ := h
  replace h := asS_inv h; obtain ⟨z30, rfl, h⟩ := h
  replace h := popN_inv h; obtain ⟨rfl, h⟩ := h
  replace h := popB_inv h; obtain ⟨c31, e32, rfl, h⟩ := h
  replace h := popA_inv h; obtain ⟨v33, c34, rfl, h⟩ := h
  replace h := asI_inv h; obtain ⟨z35, rfl, h⟩ := h
  replace h := popA_inv h; obtain ⟨v36, c37, rfl, h⟩ := h
  replace h := asI_inv h; obtain ⟨z38, rfl, h⟩ := h
  replace h := popA_inv h; obtain ⟨v39, c40, rfl, h⟩ := h
  replace h := asS_inv h; obtain ⟨z41, rfl, h⟩ := h
  replace h := popN_inv h; obtain ⟨rfl, h⟩ := h
  replace h := popN_inv h; obtain ⟨rfl, h⟩ := h
  exact (arith_Do_j7_eq3 k K op0 (⟨z13, z16, z19⟩ : S29) (⟨z24, z27, z30⟩ : S29) (⟨z35, z38, z41⟩ : S29)).trans h
theorem arith_Do_cok {ρ : Type} (k : Nat) : COK (arith_Do_cfg (ρ := ρ) k) (arith_Do_G k) arith_Do_code :=
  cok_of (tl := []) (tj := [(7, arith_Do_j7_s k), (5, arith_Do_j5_s k), (3, arith_Do_j3_s k), (9, arith_Do_j9_s k)]) (tb := []) rfl rfl rfl (nil_all (by kernel_rfl)) (all_nth 4 (by kernel_rfl) ⟨join_case (by kernel_rfl) rfl (arith_Do_j7_ok3 k), join_case (by kernel_rfl) rfl (arith_Do_j5_ok2 k), join_case (by kernel_rfl) rfl (arith_Do_j3_ok1 k), join_case (by kernel_rfl) rfl (arith_Do_j9_ok0 k), trivial⟩) (fun p hp => by cases hp)
noncomputable def arith_Do_enc (r : S29 × Int) : AV UU := .pv (.tup [.typ (.s29 r.1), .int .i64 r.2])
noncomputable def arith_Do_dec (v : AV UU) (_ : List (List (AV UU))) : Option (S29 × Int) :=
asT v fun q1 =>
popA q1 fun p2 q3 =>
as_s29 (.pv p2) fun r0 =>
popA q3 fun p4 q5 =>
asI .i64 (.pv p4) fun r1 =>
popN q5 <|
some (r0, r1)
theorem arith_Do_dec_enc (v : AV UU) (b : List (List (AV UU))) (r : S29 × Int) (h : arith_Do_dec v b = some r) : v = arith_Do_enc r := by
  unfold arith_Do_dec at h
  replace h := asT_inv h; obtain ⟨q1, rfl, h⟩ := h
  replace h := popA_inv h; obtain ⟨p2, q3, rfl, h⟩ := h
  replace h := as_s29_inv h; obtain ⟨r0, e, h⟩ := h; cases e
  replace h := popA_inv h; obtain ⟨p4, q5, rfl, h⟩ := h
  replace h := asI_inv h; obtain ⟨r1, e, h⟩ := h; cases e
  replace h := popN_inv h; obtain ⟨rfl, h⟩ := h
  cases h
  rfl
theorem arith_Do_eq (k : Nat) (op0 : Int) (a1 : S29) (b2 : S29) : bodyK UX (arith_Do_cfg k) (arith_Do_G k) Tryd.f60 [.pv (.int .i64 op0), .pv (.typ (.s29 a1)), .pv (.typ (.s29 b2))] [] arith_Do_dec = arith_Do k op0 a1 b2 := by kernel_rfl
theorem arith_Do_con (k : Nat) (op0 : Int) (a1 : S29) (b2 : S29) (r : S29 × Int) (h : arith_Do k op0 a1 b2 = some r) : Con (X := UX) Tryd.prog 60 [.pv (.int .i64 op0), .pv (.typ (.s29 a1)), .pv (.typ (.s29 b2))] [] (arith_Do_enc r) [] :=
  con_of_body xok tok Tryd.func60 arith_Do_body (arith_Do_gok k) rfl (arith_Do_cok k) (of_decide_eq_true (by kernel_rfl)) arith_Do_dec_enc ((arith_Do_eq k op0 a1 b2).trans h)
noncomputable def arith_Do_an {ρ : Type} (k : Nat) : An UX ρ := fun args bx K =>
popA args fun v1 a2 =>
asI .i64 v1 fun op0 =>
popA a2 fun v3 a4 =>
as_s29 v3 fun a1 =>
popA a4 fun v5 a6 =>
as_s29 v5 fun b2 =>
popN a6 <|
popN bx <|
(arith_Do k op0 a1 b2).bind fun r => K (arith_Do_enc r) []
theorem arith_Do_ok {ρ : Type} (k : Nat) : AnsOK Tryd.prog 60 (arith_Do_an (ρ := ρ) k) := by
  intro args bx K r h
  unfold arith_Do_an at h
  replace h := popA_inv h; obtain ⟨v1, a2, rfl, h⟩ := h
  replace h := asI_inv h; obtain ⟨op0, rfl, h⟩ := h
  replace h := popA_inv h; obtain ⟨v3, a4, rfl, h⟩ := h
  replace h := as_s29_inv h; obtain ⟨a1, rfl, h⟩ := h
  replace h := popA_inv h; obtain ⟨v5, a6, rfl, h⟩ := h
  replace h := as_s29_inv h; obtain ⟨b2, rfl, h⟩ := h
  replace h := popN_inv h; obtain ⟨rfl, h⟩ := h
  replace h := popN_inv h; obtain ⟨rfl, h⟩ := h
  replace h := bind_inv h
  obtain ⟨x, hx, h⟩ := h
  exact ⟨there_of Tryd.func60 (by kernel_rfl) arith_Do_body, _, _, h, arith_Do_con k op0 a1 b2 x hx⟩

/-! cadastre/value.sign -/
noncomputable def value_sign_code : Code := match Tryd.f72.body with | some c => c | none => .skip
theorem value_sign_body : Tryd.f72.body = some value_sign_code := by kernel_rfl
noncomputable def value_sign_G {ρ : Type} (k : Nat) : Ans UX ρ := gnil
theorem value_sign_gok {ρ : Type} (k : Nat) : GOK Tryd.prog (value_sign_G (ρ := ρ) k) := gok_nil
noncomputable def value_sign_cfg {ρ : Type} (k : Nat) : Cfg UX ρ where
  live i := (assoc [(0, [0, 1]), (1, [0, 1]), (2, []), (3, [0, 1]), (4, []), (5, [])] i).getD []
  boxes i := (assoc [(0, []), (1, []), (2, []), (3, []), (4, []), (5, [])] i).getD []
  tk i := (assoc [] i).getD []
  n := 13
  labelR l := (assoc [] l).getD 0
  loops := assoc []
  labels := assoc []
  joins := assoc []
  xl i e := match e with
    | .nxt => assoc [] i
    | .ret => assoc [] i
    | .exit j => (assoc [] i).bind fun l => assoc l j
    | .goto j => (assoc [] i).bind fun l => assoc l j
noncomputable def value_sign_L : List Code := selI [] (loopsOf value_sign_code)
noncomputable def value_sign_J : List Code := selI [] (joinsOf value_sign_code)
noncomputable def value_sign_S : List Code := scopesOf value_sign_code
theorem value_sign_cok {ρ : Type} (k : Nat) : COK (value_sign_cfg (ρ := ρ) k) (value_sign_G k) value_sign_code :=
  cok_of (tl := []) (tj := []) (tb := []) rfl rfl rfl (nil_all (by kernel_rfl)) (nil_all (by kernel_rfl)) (fun p hp => by cases hp)
noncomputable def value_sign_enc (r : Int) : AV UU := .pv (.int .i64 r)
noncomputable def value_sign_dec (v : AV UU) (_ : List (List (AV UU))) : Option Int :=
asI .i64 v fun r0 =>
some r0
theorem value_sign_dec_enc (v : AV UU) (b : List (List (AV UU))) (r : Int) (h : value_sign_dec v b = some r) : v = value_sign_enc r := by
  unfold value_sign_dec at h
  replace h := asI_inv h; obtain ⟨r0, rfl, h⟩ := h
  cases h
  rfl
theorem value_sign_eq (k : Nat) (a0 : Int) (b1 : Int) : bodyK UX (value_sign_cfg k) (value_sign_G k) Tryd.f72 [.pv (.int .i64 a0), .pv (.int .i64 b1)] [] value_sign_dec = value_sign k a0 b1 := by kernel_rfl
theorem value_sign_con (k : Nat) (a0 : Int) (b1 : Int) (r : Int) (h : value_sign k a0 b1 = some r) : Con (X := UX) Tryd.prog 72 [.pv (.int .i64 a0), .pv (.int .i64 b1)] [] (value_sign_enc r) [] :=
  con_of_body xok tok Tryd.func72 value_sign_body (value_sign_gok k) rfl (value_sign_cok k) (of_decide_eq_true (by kernel_rfl)) value_sign_dec_enc ((value_sign_eq k a0 b1).trans h)
noncomputable def value_sign_an {ρ : Type} (k : Nat) : An UX ρ := fun args bx K =>
popA args fun v1 a2 =>
asI .i64 v1 fun a0 =>
popA a2 fun v3 a4 =>
asI .i64 v3 fun b1 =>
popN a4 <|
popN bx <|
(value_sign k a0 b1).bind fun r => K (value_sign_enc r) []
theorem value_sign_ok {ρ : Type} (k : Nat) : AnsOK Tryd.prog 72 (value_sign_an (ρ := ρ) k) := by
  intro args bx K r h
  unfold value_sign_an at h
  replace h := popA_inv h; obtain ⟨v1, a2, rfl, h⟩ := h
  replace h := asI_inv h; obtain ⟨a0, rfl, h⟩ := h
  replace h := popA_inv h; obtain ⟨v3, a4, rfl, h⟩ := h
  replace h := asI_inv h; obtain ⟨b1, rfl, h⟩ := h
  replace h := popN_inv h; obtain ⟨rfl, h⟩ := h
  replace h := popN_inv h; obtain ⟨rfl, h⟩ := h
  replace h := bind_inv h
  obtain ⟨x, hx, h⟩ := h
  exact ⟨there_of Tryd.func72 (by kernel_rfl) value_sign_body, _, _, h, value_sign_con k a0 b1 x hx⟩

/-! cadastre/value.text -/
noncomputable def value_text_code : Code := match Tryd.f73.body with | some c => c | none => .skip
theorem value_text_body : Tryd.f73.body = some value_text_code := by kernel_rfl
noncomputable def value_text_G {ρ : Type} (k : Nat) : Ans UX ρ := gk 72 (value_sign_an k) (gnil)
theorem value_text_gok {ρ : Type} (k : Nat) : GOK Tryd.prog (value_text_G (ρ := ρ) k) := gok_cons (value_sign_ok k) (gok_nil)
noncomputable def value_text_j3_s {ρ : Type} (k : Nat) : Run UX ρ := fun s K =>
popS 0 s.env fun v1 e2 =>
asS v1 fun a0 =>
popS 1 e2 fun v3 e4 =>
asS v3 fun b1 =>
popS 5 e4 fun v5 e6 =>
asI .i64 v5 fun i5 =>
popN e6 <|
popN s.hp <|
value_text_j3 k (fun a0 b1 i5 => K (.goto 0) ⟨[(0, .pv (.str a0)), (1, .pv (.str b1)), (5, .pv (.int .i64 i5))], []⟩) (fun a0 b1 i5 => K .nxt ⟨[(0, .pv (.str a0)), (1, .pv (.str b1)), (5, .pv (.int .i64 i5))], []⟩) a0 b1 i5
noncomputable def value_text_l2_s {ρ : Type} (k : Nat) : Run UX ρ := fun s K =>
popS 0 s.env fun v1 e2 =>
asS v1 fun a0 =>
popS 1 e2 fun v3 e4 =>
asS v3 fun b1 =>
popS 5 e4 fun v5 e6 =>
asI .i64 v5 fun i5 =>
popN e6 <|
popN s.hp <|
value_text_l2 k (fun a0 b1 i5 => K (.goto 0) ⟨[(0, .pv (.str a0)), (1, .pv (.str b1)), (5, .pv (.int .i64 i5))], []⟩) (fun a0 b1 => K (.exit 0) ⟨[(0, .pv (.str a0)), (1, .pv (.str b1))], []⟩) k a0 b1 i5
noncomputable def value_text_cfg {ρ : Type} (k : Nat) : Cfg UX ρ where
  live i := (assoc [(0, [0, 1]), (1, [0, 1]), (2, [0, 1, 5]), (3, [0, 1, 5]), (4, [0, 1, 5]), (5, [0, 1]), (6, [0, 1, 5])] i).getD []
  boxes i := (assoc [(0, []), (1, []), (2, []), (3, []), (4, []), (5, []), (6, [])] i).getD []
  tk i := (assoc [] i).getD []
  n := 39
  labelR l := (assoc [] l).getD 0
  loops := assoc [(2, value_text_l2_s k)]
  labels := assoc []
  joins := assoc [(3, value_text_j3_s k)]
  xl i e := match e with
    | .nxt => assoc [(3, ([0, 1, 5], []))] i
    | .ret => assoc [] i
    | .exit j => (assoc [(2, [(0, ([0, 1], []))])] i).bind fun l => assoc l j
    | .goto j => (assoc [(3, [(0, ([0, 1, 5], []))]), (2, [(0, ([0, 1, 5], []))])] i).bind fun l => assoc l j
noncomputable def value_text_L : List Code := selI [2] (loopsOf value_text_code)
noncomputable def value_text_J : List Code := selI [3] (joinsOf value_text_code)
noncomputable def value_text_S : List Code := scopesOf value_text_code
theorem value_text_l2_eq0 {ρ : Type} (k : Nat) (K : Ex → St UU → Option ρ) : ∀ (n : Nat) (v : ByteArray × ByteArray × Int), iterK UX (fun s => s.at (value_text_cfg (ρ := ρ) k).live (value_text_cfg (ρ := ρ) k).boxes (some 2)) (exec UX (value_text_cfg k) (value_text_G k) (value_text_L.getD 0 .skip)) n ⟨[(0, .pv (.str v.1)), (1, .pv (.str v.2.1)), (5, .pv (.int .i64 v.2.2))], []⟩ (nrmK UX (value_text_cfg k) 2 K) = value_text_l2 k (fun a0 b1 i5 => K (.goto 0) ⟨[(0, .pv (.str a0)), (1, .pv (.str b1)), (5, .pv (.int .i64 i5))], []⟩) (fun a0 b1 => K (.exit 0) ⟨[(0, .pv (.str a0)), (1, .pv (.str b1))], []⟩) n v.1 v.2.1 v.2.2 :=
  iter_rec (X := UX) (fun v => ⟨[(0, .pv (.str v.1)), (1, .pv (.str v.2.1)), (5, .pv (.int .i64 v.2.2))], []⟩) (fun rec v => value_text_l2_b k (fun a0 b1 i5 => K (.goto 0) ⟨[(0, .pv (.str a0)), (1, .pv (.str b1)), (5, .pv (.int .i64 i5))], []⟩) (fun a0 b1 => K (.exit 0) ⟨[(0, .pv (.str a0)), (1, .pv (.str b1))], []⟩) (fun a0 b1 i5 => rec (a0, b1, i5)) v.1 v.2.1 v.2.2) (fun n v => value_text_l2 k (fun a0 b1 i5 => K (.goto 0) ⟨[(0, .pv (.str a0)), (1, .pv (.str b1)), (5, .pv (.int .i64 i5))], []⟩) (fun a0 b1 => K (.exit 0) ⟨[(0, .pv (.str a0)), (1, .pv (.str b1))], []⟩) n v.1 v.2.1 v.2.2) (fun n v => by kernel_rfl) (fun _ => rfl) (fun _ _ => rfl)
theorem value_text_l2_ok0 {ρ : Type} (k : Nat) : IterOK UX (value_text_cfg (ρ := ρ) k) (value_text_G k) (value_text_L.getD 0 .skip) 2 (value_text_l2_s k) := by
  intro s K r h
  obtain ⟨env, hp⟩ := s
  unfold value_text_l2_s at h
  replace h := popS_inv h; obtain ⟨v1, e2, rfl, h⟩ := h
  replace h := asS_inv h; obtain ⟨a0, rfl, h⟩ := h
  replace h := popS_inv h; obtain ⟨v3, e4, rfl, h⟩ := h
  replace h := asS_inv h; obtain ⟨b1, rfl, h⟩ := h
  replace h := popS_inv h; obtain ⟨v5, e6, rfl, h⟩ := h
  replace h := asI_inv h; obtain ⟨i5, rfl, h⟩ := h
  replace h := popN_inv h; obtain ⟨rfl, h⟩ := h
  replace h := popN_inv h; obtain ⟨rfl, h⟩ := h
  exact ⟨k, (value_text_l2_eq0 k K k (a0, b1, i5)).trans h⟩
theorem value_text_j3_eq0 {ρ : Type} (k : Nat) (K : Ex → St UU → Option ρ) (a0 : ByteArray) (b1 : ByteArray) (i5 : Int) : exec UX (value_text_cfg k) (value_text_G k) (value_text_J.getD 0 .skip) ⟨[(0, .pv (.str a0)), (1, .pv (.str b1)), (5, .pv (.int .i64 i5))], []⟩ (nrmK UX (value_text_cfg k) 3 K) = value_text_j3 k (fun a0 b1 i5 => K (.goto 0) ⟨[(0, .pv (.str a0)), (1, .pv (.str b1)), (5, .pv (.int .i64 i5))], []⟩) (fun a0 b1 i5 => K .nxt ⟨[(0, .pv (.str a0)), (1, .pv (.str b1)), (5, .pv (.int .i64 i5))], []⟩) a0 b1 i5 := by kernel_rfl
theorem value_text_j3_ok0 {ρ : Type} (k : Nat) : JoinOK UX (value_text_cfg (ρ := ρ) k) (value_text_G k) (value_text_J.getD 0 .skip) 3 (value_text_j3_s k) := by
  intro s K r h
  obtain ⟨env, hp⟩ := s
  unfold value_text_j3_s at h
  replace h := popS_inv h; obtain ⟨v1, e2, rfl, h⟩ := h
  replace h := asS_inv h; obtain ⟨a0, rfl, h⟩ := h
  replace h := popS_inv h; obtain ⟨v3, e4, rfl, h⟩ := h
  replace h := asS_inv h; obtain ⟨b1, rfl, h⟩ := h
  replace h := popS_inv h; obtain ⟨v5, e6, rfl, h⟩ := h
  replace h := asI_inv h; obtain ⟨i5, rfl, h⟩ := h
  replace h := popN_inv h; obtain ⟨rfl, h⟩ := h
  replace h := popN_inv h; obtain ⟨rfl, h⟩ := h
  exact (value_text_j3_eq0 k K a0 b1 i5).trans h
theorem value_text_cok {ρ : Type} (k : Nat) : COK (value_text_cfg (ρ := ρ) k) (value_text_G k) value_text_code :=
  cok_of (tl := [(2, value_text_l2_s k)]) (tj := [(3, value_text_j3_s k)]) (tb := []) rfl rfl rfl (all_nth 1 (by kernel_rfl) ⟨iter_case (by kernel_rfl) rfl (value_text_l2_ok0 k), trivial⟩) (all_nth 1 (by kernel_rfl) ⟨join_case (by kernel_rfl) rfl (value_text_j3_ok0 k), trivial⟩) (fun p hp => by cases hp)
noncomputable def value_text_enc (r : Int) : AV UU := .pv (.int .i64 r)
noncomputable def value_text_dec (v : AV UU) (_ : List (List (AV UU))) : Option Int :=
asI .i64 v fun r0 =>
some r0
theorem value_text_dec_enc (v : AV UU) (b : List (List (AV UU))) (r : Int) (h : value_text_dec v b = some r) : v = value_text_enc r := by
  unfold value_text_dec at h
  replace h := asI_inv h; obtain ⟨r0, rfl, h⟩ := h
  cases h
  rfl
theorem value_text_eq (k : Nat) (a0 : ByteArray) (b1 : ByteArray) : bodyK UX (value_text_cfg k) (value_text_G k) Tryd.f73 [.pv (.str a0), .pv (.str b1)] [] value_text_dec = value_text k a0 b1 := by kernel_rfl
theorem value_text_con (k : Nat) (a0 : ByteArray) (b1 : ByteArray) (r : Int) (h : value_text k a0 b1 = some r) : Con (X := UX) Tryd.prog 73 [.pv (.str a0), .pv (.str b1)] [] (value_text_enc r) [] :=
  con_of_body xok tok Tryd.func73 value_text_body (value_text_gok k) rfl (value_text_cok k) (of_decide_eq_true (by kernel_rfl)) value_text_dec_enc ((value_text_eq k a0 b1).trans h)
noncomputable def value_text_an {ρ : Type} (k : Nat) : An UX ρ := fun args bx K =>
popA args fun v1 a2 =>
asS v1 fun a0 =>
popA a2 fun v3 a4 =>
asS v3 fun b1 =>
popN a4 <|
popN bx <|
(value_text k a0 b1).bind fun r => K (value_text_enc r) []
theorem value_text_ok {ρ : Type} (k : Nat) : AnsOK Tryd.prog 73 (value_text_an (ρ := ρ) k) := by
  intro args bx K r h
  unfold value_text_an at h
  replace h := popA_inv h; obtain ⟨v1, a2, rfl, h⟩ := h
  replace h := asS_inv h; obtain ⟨a0, rfl, h⟩ := h
  replace h := popA_inv h; obtain ⟨v3, a4, rfl, h⟩ := h
  replace h := asS_inv h; obtain ⟨b1, rfl, h⟩ := h
  replace h := popN_inv h; obtain ⟨rfl, h⟩ := h
  replace h := popN_inv h; obtain ⟨rfl, h⟩ := h
  replace h := bind_inv h
  obtain ⟨x, hx, h⟩ := h
  exact ⟨there_of Tryd.func73 (by kernel_rfl) value_text_body, _, _, h, value_text_con k a0 b1 x hx⟩

/-! cadastre/value.Order -/
noncomputable def value_Order_code : Code := match Tryd.f70.body with | some c => c | none => .skip
theorem value_Order_body : Tryd.f70.body = some value_Order_code := by kernel_rfl
noncomputable def value_Order_G {ρ : Type} (k : Nat) : Ans UX ρ := gk 72 (value_sign_an k) (gk 73 (value_text_an k) (gnil))
theorem value_Order_gok {ρ : Type} (k : Nat) : GOK Tryd.prog (value_Order_G (ρ := ρ) k) := gok_cons (value_sign_ok k) (gok_cons (value_text_ok k) (gok_nil))
noncomputable def value_Order_cfg {ρ : Type} (k : Nat) : Cfg UX ρ where
  live i := (assoc [(0, [0, 1]), (1, [2, 3]), (2, [2, 3]), (3, [2, 3]), (4, [2, 3]), (5, [2, 3])] i).getD []
  boxes i := (assoc [(0, []), (1, [2, 3]), (2, [2, 3]), (3, [2, 3]), (4, [2, 3]), (5, [2, 3])] i).getD []
  tk i := (assoc [] i).getD []
  n := 30
  labelR l := (assoc [] l).getD 0
  loops := assoc []
  labels := assoc []
  joins := assoc []
  xl i e := match e with
    | .nxt => assoc [] i
    | .ret => assoc [] i
    | .exit j => (assoc [] i).bind fun l => assoc l j
    | .goto j => (assoc [] i).bind fun l => assoc l j
noncomputable def value_Order_L : List Code := selI [] (loopsOf value_Order_code)
noncomputable def value_Order_J : List Code := selI [] (joinsOf value_Order_code)
noncomputable def value_Order_S : List Code := scopesOf value_Order_code
theorem value_Order_cok {ρ : Type} (k : Nat) : COK (value_Order_cfg (ρ := ρ) k) (value_Order_G k) value_Order_code :=
  cok_of (tl := []) (tj := []) (tb := []) rfl rfl rfl (nil_all (by kernel_rfl)) (nil_all (by kernel_rfl)) (fun p hp => by cases hp)
noncomputable def value_Order_enc (r : Int) : AV UU := .pv (.int .i64 r)
noncomputable def value_Order_dec (v : AV UU) (_ : List (List (AV UU))) : Option Int :=
asI .i64 v fun r0 =>
some r0
theorem value_Order_dec_enc (v : AV UU) (b : List (List (AV UU))) (r : Int) (h : value_Order_dec v b = some r) : v = value_Order_enc r := by
  unfold value_Order_dec at h
  replace h := asI_inv h; obtain ⟨r0, rfl, h⟩ := h
  cases h
  rfl
theorem value_Order_eq (k : Nat) (a0 : S29) (b1 : S29) : bodyK UX (value_Order_cfg k) (value_Order_G k) Tryd.f70 [.pv (.typ (.s29 a0)), .pv (.typ (.s29 b1))] [] value_Order_dec = value_Order k a0 b1 := by kernel_rfl
theorem value_Order_con (k : Nat) (a0 : S29) (b1 : S29) (r : Int) (h : value_Order k a0 b1 = some r) : Con (X := UX) Tryd.prog 70 [.pv (.typ (.s29 a0)), .pv (.typ (.s29 b1))] [] (value_Order_enc r) [] :=
  con_of_body xok tok Tryd.func70 value_Order_body (value_Order_gok k) rfl (value_Order_cok k) (of_decide_eq_true (by kernel_rfl)) value_Order_dec_enc ((value_Order_eq k a0 b1).trans h)
noncomputable def value_Order_an {ρ : Type} (k : Nat) : An UX ρ := fun args bx K =>
popA args fun v1 a2 =>
as_s29 v1 fun a0 =>
popA a2 fun v3 a4 =>
as_s29 v3 fun b1 =>
popN a4 <|
popN bx <|
(value_Order k a0 b1).bind fun r => K (value_Order_enc r) []
theorem value_Order_ok {ρ : Type} (k : Nat) : AnsOK Tryd.prog 70 (value_Order_an (ρ := ρ) k) := by
  intro args bx K r h
  unfold value_Order_an at h
  replace h := popA_inv h; obtain ⟨v1, a2, rfl, h⟩ := h
  replace h := as_s29_inv h; obtain ⟨a0, rfl, h⟩ := h
  replace h := popA_inv h; obtain ⟨v3, a4, rfl, h⟩ := h
  replace h := as_s29_inv h; obtain ⟨b1, rfl, h⟩ := h
  replace h := popN_inv h; obtain ⟨rfl, h⟩ := h
  replace h := popN_inv h; obtain ⟨rfl, h⟩ := h
  replace h := bind_inv h
  obtain ⟨x, hx, h⟩ := h
  exact ⟨there_of Tryd.func70 (by kernel_rfl) value_Order_body, _, _, h, value_Order_con k a0 b1 x hx⟩

/-! cadastre/logic.Test -/
noncomputable def logic_Test_code : Code := match Tryd.f61.body with | some c => c | none => .skip
theorem logic_Test_body : Tryd.f61.body = some logic_Test_code := by kernel_rfl
noncomputable def logic_Test_G {ρ : Type} (k : Nat) : Ans UX ρ := gk 22 (value_All_an k) (gk 70 (value_Order_an k) (gk 68 (logic_said_an k) (gnil)))
theorem logic_Test_gok {ρ : Type} (k : Nat) : GOK Tryd.prog (logic_Test_G (ρ := ρ) k) := gok_cons (value_All_ok k) (gok_cons (value_Order_ok k) (gok_cons (logic_said_ok k) (gok_nil)))
noncomputable def logic_Test_j5_s {ρ : Type} (k : Nat) : Run UX ρ := fun s K =>
popS 0 s.env fun v1 e2 =>
asI .i64 v1 fun op0 =>
popS 4 e2 fun v3 e4 =>
asP 4 0 v3 <|
popS 5 e4 fun v5 e6 =>
asP 5 0 v5 <|
popS 6 e6 fun v7 e8 =>
asP 6 0 v7 <|
popN e8 <|
popB 4 s.hp fun c9 e10 =>
popA c9 fun v11 c12 =>
asI .i64 v11 fun z13 =>
popA c12 fun v14 c15 =>
asI .i64 v14 fun z16 =>
popA c15 fun v17 c18 =>
asS v17 fun z19 =>
popN c18 <|
popB 5 e10 fun c20 e21 =>
popA c20 fun v22 c23 =>
asI .i64 v22 fun z24 =>
popA c23 fun v25 c26 =>
asI .i64 v25 fun z27 =>
popA c26 fun v28 c29 =>
asS v28 fun z30 =>
popN c29 <|
popB 6 e21 fun c31 e32 =>
popA c31 fun v33 c34 =>
asI .i64 v33 fun z35 =>
popA c34 fun v36 c37 =>
asI .i64 v36 fun z38 =>
popA c37 fun v39 c40 =>
asS v39 fun z41 =>
popN c40 <|
popN e32 <|
logic_Test_j5 k (fun t7 t6 => K .ret ⟨[(6, .ptr 6 0), (7, .pv (.int .i64 t7))], [(6, [.pv (.int .i64 t6.f0), .pv (.int .i64 t6.f1), .pv (.str t6.f2)])]⟩) op0 (⟨z13, z16, z19⟩ : S29) (⟨z24, z27, z30⟩ : S29) (⟨z35, z38, z41⟩ : S29)
noncomputable def logic_Test_j3_s {ρ : Type} (k : Nat) : Run UX ρ := fun s K =>
popS 0 s.env fun v1 e2 =>
asI .i64 v1 fun op0 =>
popS 4 e2 fun v3 e4 =>
asP 4 0 v3 <|
popS 5 e4 fun v5 e6 =>
asP 5 0 v5 <|
popS 6 e6 fun v7 e8 =>
asP 6 0 v7 <|
popN e8 <|
popB 4 s.hp fun c9 e10 =>
popA c9 fun v11 c12 =>
asI .i64 v11 fun z13 =>
popA c12 fun v14 c15 =>
asI .i64 v14 fun z16 =>
popA c15 fun v17 c18 =>
asS v17 fun z19 =>
popN c18 <|
popB 5 e10 fun c20 e21 =>
popA c20 fun v22 c23 =>
asI .i64 v22 fun z24 =>
popA c23 fun v25 c26 =>
asI .i64 v25 fun z27 =>
popA c26 fun v28 c29 =>
asS v28 fun z30 =>
popN c29 <|
popB 6 e21 fun c31 e32 =>
popA c31 fun v33 c34 =>
asI .i64 v33 fun z35 =>
popA c34 fun v36 c37 =>
asI .i64 v36 fun z38 =>
popA c37 fun v39 c40 =>
asS v39 fun z41 =>
popN c40 <|
popN e32 <|
logic_Test_j3 k (fun t7 t6 => K .ret ⟨[(6, .ptr 6 0), (7, .pv (.int .i64 t7))], [(6, [.pv (.int .i64 t6.f0), .pv (.int .i64 t6.f1), .pv (.str t6.f2)])]⟩) op0 (⟨z13, z16, z19⟩ : S29) (⟨z24, z27, z30⟩ : S29) (⟨z35, z38, z41⟩ : S29)
noncomputable def logic_Test_cfg {ρ : Type} (k : Nat) : Cfg UX ρ where
  live i := (assoc [(0, [0, 1, 2]), (1, [0, 4, 5, 6]), (2, [6]), (3, [0, 4, 5, 6]), (4, [6]), (5, [0, 4, 5, 6]), (6, [0, 6, 8]), (7, [6, 8, 35]), (8, [6, 8]), (9, [6, 8, 35]), (10, [6, 8]), (11, [6, 8, 35]), (12, [6, 8]), (13, [6, 8, 35]), (14, [6, 8]), (15, [6, 8, 35]), (16, [6, 8]), (17, [6, 8])] i).getD []
  boxes i := (assoc [(0, []), (1, [4, 5, 6]), (2, [6]), (3, [4, 5, 6]), (4, [6]), (5, [4, 5, 6]), (6, [6]), (7, [6]), (8, [6]), (9, [6]), (10, [6]), (11, [6]), (12, [6]), (13, [6]), (14, [6]), (15, [6]), (16, [6]), (17, [6])] i).getD []
  tk i := (assoc [] i).getD []
  n := 64
  labelR l := (assoc [] l).getD 0
  loops := assoc []
  labels := assoc []
  joins := assoc [(5, logic_Test_j5_s k), (3, logic_Test_j3_s k)]
  xl i e := match e with
    | .nxt => assoc [] i
    | .ret => assoc [(5, ([6, 7], [6])), (3, ([6, 7], [6]))] i
    | .exit j => (assoc [] i).bind fun l => assoc l j
    | .goto j => (assoc [] i).bind fun l => assoc l j
noncomputable def logic_Test_L : List Code := selI [] (loopsOf logic_Test_code)
noncomputable def logic_Test_J : List Code := selI [5, 3] (joinsOf logic_Test_code)
noncomputable def logic_Test_S : List Code := scopesOf logic_Test_code
theorem logic_Test_j3_eq0 {ρ : Type} (k : Nat) (K : Ex → St UU → Option ρ) (op0 : Int) (a4 : S29) (b5 : S29) (t6 : S29) : exec UX (logic_Test_cfg k) (logic_Test_G k) (logic_Test_J.getD 0 .skip) ⟨[(0, .pv (.int .i64 op0)), (4, .ptr 4 0), (5, .ptr 5 0), (6, .ptr 6 0)], [(4, [.pv (.int .i64 a4.f0), .pv (.int .i64 a4.f1), .pv (.str a4.f2)]), (5, [.pv (.int .i64 b5.f0), .pv (.int .i64 b5.f1), .pv (.str b5.f2)]), (6, [.pv (.int .i64 t6.f0), .pv (.int .i64 t6.f1), .pv (.str t6.f2)])]⟩ (nrmK UX (logic_Test_cfg k) 3 K) = logic_Test_j3 k (fun t7 t6 => K .ret ⟨[(6, .ptr 6 0), (7, .pv (.int .i64 t7))], [(6, [.pv (.int .i64 t6.f0), .pv (.int .i64 t6.f1), .pv (.str t6.f2)])]⟩) op0 a4 b5 t6 := by kernel_rfl
theorem logic_Test_j3_ok0 {ρ : Type} (k : Nat) : JoinOK UX (logic_Test_cfg (ρ := ρ) k) (logic_Test_G k) (logic_Test_J.getD 0 .skip) 3 (logic_Test_j3_s k) := by
  intro s K r h
  obtain ⟨env, hp⟩ := s
  unfold logic_Test_j3_s at h
  replace h := popS_inv h; obtain ⟨v1, e2, rfl, h⟩ := h
  replace h := asI_inv h; obtain ⟨op0, rfl, h⟩ := h
  replace h := popS_inv h; obtain ⟨v3, e4, rfl, h⟩ := h
  replace h := asP_inv h; obtain ⟨rfl, h⟩ := h
  replace h := popS_inv h; obtain ⟨v5, e6, rfl, h⟩ := h
  replace h := asP_inv h; obtain ⟨rfl, h⟩ := h
  replace h := popS_inv h; obtain ⟨v7, e8, rfl, h⟩ := h
  replace h := asP_inv h; obtain ⟨rfl, h⟩ := h
  replace h := popN_inv h; obtain ⟨rfl, h⟩ := h
  replace h := popB_inv h; obtain ⟨c9, e10, rfl, h⟩ := h
  replace h := popA_inv h; obtain ⟨v11, c12, rfl, h⟩ := h
  replace h := asI_inv h; obtain ⟨z13, rfl, h⟩ := h
  replace h := popA_inv h; obtain ⟨v14, c15, rfl, h⟩ := h
  replace h := asI_inv h; obtain ⟨z16, rfl, h⟩ := h
  replace h := popA_inv h; obtain ⟨v17, c18, rfl, h⟩ := h
  replace h := asS_inv h; obtain ⟨z19, rfl, h⟩ := h
  replace h := popN_inv h; obtain ⟨rfl, h⟩ := h
  replace h := popB_inv h; obtain ⟨c20, e21, rfl, h⟩ := h
  replace h := popA_inv h; obtain ⟨v22, c23, rfl, h⟩ := h
  replace h := asI_inv h; obtain ⟨z24, rfl, h⟩ := h
  replace h := popA_inv h; obtain ⟨v25, c26, rfl, h⟩ := h
  replace h := asI_inv h; obtain ⟨z27, rfl, h⟩ := h
  replace h := popA_inv h; obtain ⟨v28, c29, rfl, h⟩ := h
  replace h := asS_inv h; obtain ⟨z30, rfl, h⟩ := h
  replace h := popN_inv h; obtain ⟨rfl, h⟩ := h
  replace h := popB_inv h; obtain ⟨c31, e32, rfl, h⟩ := h
  replace h := popA_inv h; obtain ⟨v33, c34, rfl, h⟩ := h
  replace h := asI_inv h; obtain ⟨z35, rfl, h⟩ := h
  replace h := popA_inv h; obtain ⟨v36, c37, rfl, h⟩ := h
  replace h := asI_inv h; obtain ⟨z38, rfl, h⟩ := h
  replace h := popA_inv h; obtain ⟨v39, c40, rfl, h⟩ := h
  replace h := asS_inv h; obtain ⟨z41, rfl, h⟩ := h
  replace h := popN_inv h; obtain ⟨rfl, h⟩ := h
  replace h := popN_inv h; obtain ⟨rfl, h⟩ := h
  exact (logic_Test_j3_eq0 k K op0 (⟨z13, z16, z19⟩ : S29) (⟨z24, z27, z30⟩ : S29) (⟨z35, z38, z41⟩ : S29)).trans h
theorem logic_Test_j5_eq1 {ρ : Type} (k : Nat) (K : Ex → St UU → Option ρ) (op0 : Int) (a4 : S29) (b5 : S29) (t6 : S29) : exec UX (logic_Test_cfg k) (logic_Test_G k) (logic_Test_J.getD 1 .skip) ⟨[(0, .pv (.int .i64 op0)), (4, .ptr 4 0), (5, .ptr 5 0), (6, .ptr 6 0)], [(4, [.pv (.int .i64 a4.f0), .pv (.int .i64 a4.f1), .pv (.str a4.f2)]), (5, [.pv (.int .i64 b5.f0), .pv (.int .i64 b5.f1), .pv (.str b5.f2)]), (6, [.pv (.int .i64 t6.f0), .pv (.int .i64 t6.f1), .pv (.str t6.f2)])]⟩ (nrmK UX (logic_Test_cfg k) 5 K) = logic_Test_j5 k (fun t7 t6 => K .ret ⟨[(6, .ptr 6 0), (7, .pv (.int .i64 t7))], [(6, [.pv (.int .i64 t6.f0), .pv (.int .i64 t6.f1), .pv (.str t6.f2)])]⟩) op0 a4 b5 t6 := by kernel_rfl
theorem logic_Test_j5_ok1 {ρ : Type} (k : Nat) : JoinOK UX (logic_Test_cfg (ρ := ρ) k) (logic_Test_G k) (logic_Test_J.getD 1 .skip) 5 (logic_Test_j5_s k) := by
  intro s K r h
  obtain ⟨env, hp⟩ := s
  unfold logic_Test_j5_s at h
  replace h := popS_inv h; obtain ⟨v1, e2, rfl, h⟩ := h
  replace h := asI_inv h; obtain ⟨op0, rfl, h⟩ := h
  replace h := popS_inv h; obtain ⟨v3, e4, rfl, h⟩ := h
  replace h := asP_inv h; obtain ⟨rfl, h⟩ := h
  replace h := popS_inv h; obtain ⟨v5, e6, rfl, h⟩ := h
  replace h := asP_inv h; obtain ⟨rfl, h⟩ := h
  replace h := popS_inv h; obtain ⟨v7, e8, rfl, h⟩ := h
  replace h := asP_inv h; obtain ⟨rfl, h⟩ := h
  replace h := popN_inv h; obtain ⟨rfl, h⟩ := h
  replace h := popB_inv h; obtain ⟨c9, e10, rfl, h⟩ := h
  replace h := popA_inv h; obtain ⟨v11, c12, rfl, h⟩ := h
  replace h := asI_inv h; obtain ⟨z13, rfl, h⟩ := h
  replace h := popA_inv h; obtain ⟨v14, c15, rfl, h⟩ := h
  replace h := asI_inv h; obtain ⟨z16, rfl, h⟩ := h
  replace h := popA_inv h; obtain ⟨v17, c18, rfl, h⟩ := h
  replace h := asS_inv h; obtain ⟨z19, rfl, h⟩ := h
  replace h := popN_inv h; obtain ⟨rfl, h⟩ := h
  replace h := popB_inv h; obtain ⟨c20, e21, rfl, h⟩ := h
  replace h := popA_inv h; obtain ⟨v22, c23, rfl, h⟩ := h
  replace h := asI_inv h; obtain ⟨z24, rfl, h⟩ := h
  replace h := popA_inv h; obtain ⟨v25, c26, rfl, h⟩ := h
  replace h := asI_inv h; obtain ⟨z27, rfl, h⟩ := h
  replace h := popA_inv h; obtain ⟨v28, c29, rfl, h⟩ := h
  replace h := asS_inv h; obtain ⟨z30, rfl, h⟩ := h
  replace h := popN_inv h; obtain ⟨rfl, h⟩ := h
  replace h := popB_inv h; obtain ⟨c31, e32, rfl, h⟩ := h
  replace h := popA_inv h; obtain ⟨v33, c34, rfl, h⟩ := h
  replace h := asI_inv h; obtain ⟨z35, rfl, h⟩ := h
  replace h := popA_inv h; obtain ⟨v36, c37, rfl, h⟩ := h
  replace h := asI_inv h; obtain ⟨z38, rfl, h⟩ := h
  replace h := popA_inv h; obtain ⟨v39, c40, rfl, h⟩ := h
  replace h := asS_inv h; obtain ⟨z41, rfl, h⟩ := h
  replace h := popN_inv h; obtain ⟨rfl, h⟩ := h
  replace h := popN_inv h; obtain ⟨rfl, h⟩ := h
  exact (logic_Test_j5_eq1 k K op0 (⟨z13, z16, z19⟩ : S29) (⟨z24, z27, z30⟩ : S29) (⟨z35, z38, z41⟩ : S29)).trans h
theorem logic_Test_cok {ρ : Type} (k : Nat) : COK (logic_Test_cfg (ρ := ρ) k) (logic_Test_G k) logic_Test_code :=
  cok_of (tl := []) (tj := [(5, logic_Test_j5_s k), (3, logic_Test_j3_s k)]) (tb := []) rfl rfl rfl (nil_all (by kernel_rfl)) (all_nth 2 (by kernel_rfl) ⟨join_case (by kernel_rfl) rfl (logic_Test_j5_ok1 k), join_case (by kernel_rfl) rfl (logic_Test_j3_ok0 k), trivial⟩) (fun p hp => by cases hp)
noncomputable def logic_Test_enc (r : S29 × Int) : AV UU := .pv (.tup [.typ (.s29 r.1), .int .i64 r.2])
noncomputable def logic_Test_dec (v : AV UU) (_ : List (List (AV UU))) : Option (S29 × Int) :=
asT v fun q1 =>
popA q1 fun p2 q3 =>
as_s29 (.pv p2) fun r0 =>
popA q3 fun p4 q5 =>
asI .i64 (.pv p4) fun r1 =>
popN q5 <|
some (r0, r1)
theorem logic_Test_dec_enc (v : AV UU) (b : List (List (AV UU))) (r : S29 × Int) (h : logic_Test_dec v b = some r) : v = logic_Test_enc r := by
  unfold logic_Test_dec at h
  replace h := asT_inv h; obtain ⟨q1, rfl, h⟩ := h
  replace h := popA_inv h; obtain ⟨p2, q3, rfl, h⟩ := h
  replace h := as_s29_inv h; obtain ⟨r0, e, h⟩ := h; cases e
  replace h := popA_inv h; obtain ⟨p4, q5, rfl, h⟩ := h
  replace h := asI_inv h; obtain ⟨r1, e, h⟩ := h; cases e
  replace h := popN_inv h; obtain ⟨rfl, h⟩ := h
  cases h
  rfl
theorem logic_Test_eq (k : Nat) (op0 : Int) (a1 : S29) (b2 : S29) : bodyK UX (logic_Test_cfg k) (logic_Test_G k) Tryd.f61 [.pv (.int .i64 op0), .pv (.typ (.s29 a1)), .pv (.typ (.s29 b2))] [] logic_Test_dec = logic_Test k op0 a1 b2 := by kernel_rfl
theorem logic_Test_con (k : Nat) (op0 : Int) (a1 : S29) (b2 : S29) (r : S29 × Int) (h : logic_Test k op0 a1 b2 = some r) : Con (X := UX) Tryd.prog 61 [.pv (.int .i64 op0), .pv (.typ (.s29 a1)), .pv (.typ (.s29 b2))] [] (logic_Test_enc r) [] :=
  con_of_body xok tok Tryd.func61 logic_Test_body (logic_Test_gok k) rfl (logic_Test_cok k) (of_decide_eq_true (by kernel_rfl)) logic_Test_dec_enc ((logic_Test_eq k op0 a1 b2).trans h)
noncomputable def logic_Test_an {ρ : Type} (k : Nat) : An UX ρ := fun args bx K =>
popA args fun v1 a2 =>
asI .i64 v1 fun op0 =>
popA a2 fun v3 a4 =>
as_s29 v3 fun a1 =>
popA a4 fun v5 a6 =>
as_s29 v5 fun b2 =>
popN a6 <|
popN bx <|
(logic_Test k op0 a1 b2).bind fun r => K (logic_Test_enc r) []
theorem logic_Test_ok {ρ : Type} (k : Nat) : AnsOK Tryd.prog 61 (logic_Test_an (ρ := ρ) k) := by
  intro args bx K r h
  unfold logic_Test_an at h
  replace h := popA_inv h; obtain ⟨v1, a2, rfl, h⟩ := h
  replace h := asI_inv h; obtain ⟨op0, rfl, h⟩ := h
  replace h := popA_inv h; obtain ⟨v3, a4, rfl, h⟩ := h
  replace h := as_s29_inv h; obtain ⟨a1, rfl, h⟩ := h
  replace h := popA_inv h; obtain ⟨v5, a6, rfl, h⟩ := h
  replace h := as_s29_inv h; obtain ⟨b2, rfl, h⟩ := h
  replace h := popN_inv h; obtain ⟨rfl, h⟩ := h
  replace h := popN_inv h; obtain ⟨rfl, h⟩ := h
  replace h := bind_inv h
  obtain ⟨x, hx, h⟩ := h
  exact ⟨there_of Tryd.func61 (by kernel_rfl) logic_Test_body, _, _, h, logic_Test_con k op0 a1 b2 x hx⟩

/-! cadastre/logic.Join -/
noncomputable def logic_Join_code : Code := match Tryd.f62.body with | some c => c | none => .skip
theorem logic_Join_body : Tryd.f62.body = some logic_Join_code := by kernel_rfl
noncomputable def logic_Join_G {ρ : Type} (k : Nat) : Ans UX ρ := gk 22 (value_All_an k) (gk 53 (logic_truth_an k) (gk 54 (logic_answer_an k) (gnil)))
theorem logic_Join_gok {ρ : Type} (k : Nat) : GOK Tryd.prog (logic_Join_G (ρ := ρ) k) := gok_cons (value_All_ok k) (gok_cons (logic_truth_ok k) (gok_cons (logic_answer_ok k) (gok_nil)))
noncomputable def logic_Join_j3_s {ρ : Type} (k : Nat) : Run UX ρ := fun s K =>
popS 0 s.env fun v1 e2 =>
asI .i64 v1 fun op0 =>
popS 4 e2 fun v3 e4 =>
asP 4 0 v3 <|
popS 5 e4 fun v5 e6 =>
asP 5 0 v5 <|
popS 6 e6 fun v7 e8 =>
asP 6 0 v7 <|
popN e8 <|
popB 4 s.hp fun c9 e10 =>
popA c9 fun v11 c12 =>
asI .i64 v11 fun z13 =>
popA c12 fun v14 c15 =>
asI .i64 v14 fun z16 =>
popA c15 fun v17 c18 =>
asS v17 fun z19 =>
popN c18 <|
popB 5 e10 fun c20 e21 =>
popA c20 fun v22 c23 =>
asI .i64 v22 fun z24 =>
popA c23 fun v25 c26 =>
asI .i64 v25 fun z27 =>
popA c26 fun v28 c29 =>
asS v28 fun z30 =>
popN c29 <|
popB 6 e21 fun c31 e32 =>
popA c31 fun v33 c34 =>
asI .i64 v33 fun z35 =>
popA c34 fun v36 c37 =>
asI .i64 v36 fun z38 =>
popA c37 fun v39 c40 =>
asS v39 fun z41 =>
popN c40 <|
popN e32 <|
logic_Join_j3 k (fun t7 t6 => K .ret ⟨[(6, .ptr 6 0), (7, .pv (.int .i64 t7))], [(6, [.pv (.int .i64 t6.f0), .pv (.int .i64 t6.f1), .pv (.str t6.f2)])]⟩) op0 (⟨z13, z16, z19⟩ : S29) (⟨z24, z27, z30⟩ : S29) (⟨z35, z38, z41⟩ : S29)
noncomputable def logic_Join_cfg {ρ : Type} (k : Nat) : Cfg UX ρ where
  live i := (assoc [(0, [0, 1, 2]), (1, [0, 4, 5, 6]), (2, [6]), (3, [0, 4, 5, 6]), (4, [0, 5, 6, 8, 9]), (5, [6, 9]), (6, [0, 5, 6, 8]), (7, [0, 6, 8, 9, 10]), (8, [6, 9]), (9, [0, 6, 8, 10]), (10, [6, 8, 10]), (11, [6, 8, 10])] i).getD []
  boxes i := (assoc [(0, []), (1, [4, 5, 6]), (2, [6]), (3, [4, 5, 6]), (4, [5, 6]), (5, [6]), (6, [5, 6]), (7, [6]), (8, [6]), (9, [6]), (10, [6]), (11, [6])] i).getD []
  tk i := (assoc [] i).getD []
  n := 53
  labelR l := (assoc [] l).getD 0
  loops := assoc []
  labels := assoc []
  joins := assoc [(3, logic_Join_j3_s k)]
  xl i e := match e with
    | .nxt => assoc [] i
    | .ret => assoc [(3, ([6, 7], [6]))] i
    | .exit j => (assoc [] i).bind fun l => assoc l j
    | .goto j => (assoc [] i).bind fun l => assoc l j
noncomputable def logic_Join_L : List Code := selI [] (loopsOf logic_Join_code)
noncomputable def logic_Join_J : List Code := selI [3] (joinsOf logic_Join_code)
noncomputable def logic_Join_S : List Code := scopesOf logic_Join_code
theorem logic_Join_j3_eq0 {ρ : Type} (k : Nat) (K : Ex → St UU → Option ρ) (op0 : Int) (a4 : S29) (b5 : S29) (t6 : S29) : exec UX (logic_Join_cfg k) (logic_Join_G k) (logic_Join_J.getD 0 .skip) ⟨[(0, .pv (.int .i64 op0)), (4, .ptr 4 0), (5, .ptr 5 0), (6, .ptr 6 0)], [(4, [.pv (.int .i64 a4.f0), .pv (.int .i64 a4.f1), .pv (.str a4.f2)]), (5, [.pv (.int .i64 b5.f0), .pv (.int .i64 b5.f1), .pv (.str b5.f2)]), (6, [.pv (.int .i64 t6.f0), .pv (.int .i64 t6.f1), .pv (.str t6.f2)])]⟩ (nrmK UX (logic_Join_cfg k) 3 K) = logic_Join_j3 k (fun t7 t6 => K .ret ⟨[(6, .ptr 6 0), (7, .pv (.int .i64 t7))], [(6, [.pv (.int .i64 t6.f0), .pv (.int .i64 t6.f1), .pv (.str t6.f2)])]⟩) op0 a4 b5 t6 := by kernel_rfl
theorem logic_Join_j3_ok0 {ρ : Type} (k : Nat) : JoinOK UX (logic_Join_cfg (ρ := ρ) k) (logic_Join_G k) (logic_Join_J.getD 0 .skip) 3 (logic_Join_j3_s k) := by
  intro s K r h
  obtain ⟨env, hp⟩ := s
  unfold logic_Join_j3_s at h
  replace h := popS_inv h; obtain ⟨v1, e2, rfl, h⟩ := h
  replace h := asI_inv h; obtain ⟨op0, rfl, h⟩ := h
  replace h := popS_inv h; obtain ⟨v3, e4, rfl, h⟩ := h
  replace h := asP_inv h; obtain ⟨rfl, h⟩ := h
  replace h := popS_inv h; obtain ⟨v5, e6, rfl, h⟩ := h
  replace h := asP_inv h; obtain ⟨rfl, h⟩ := h
  replace h := popS_inv h; obtain ⟨v7, e8, rfl, h⟩ := h
  replace h := asP_inv h; obtain ⟨rfl, h⟩ := h
  replace h := popN_inv h; obtain ⟨rfl, h⟩ := h
  replace h := popB_inv h; obtain ⟨c9, e10, rfl, h⟩ := h
  replace h := popA_inv h; obtain ⟨v11, c12, rfl, h⟩ := h
  replace h := asI_inv h; obtain ⟨z13, rfl, h⟩ := h
  replace h := popA_inv h; obtain ⟨v14, c15, rfl, h⟩ := h
  replace h := asI_inv h; obtain ⟨z16, rfl, h⟩ := h
  replace h := popA_inv h; obtain ⟨v17, c18, rfl, h⟩ := h
  replace h := asS_inv h; obtain ⟨z19, rfl, h⟩ := h
  replace h := popN_inv h; obtain ⟨rfl, h⟩ := h
  replace h := popB_inv h; obtain ⟨c20, e21, rfl, h⟩ := h
  replace h := popA_inv h; obtain ⟨v22, c23, rfl, h⟩ := h
  replace h := asI_inv h; obtain ⟨z24, rfl, h⟩ := h
  replace h := popA_inv h; obtain ⟨v25, c26, rfl, h⟩ := h
  replace h := asI_inv h; obtain ⟨z27, rfl, h⟩ := h
  replace h := popA_inv h; obtain ⟨v28, c29, rfl, h⟩ := h
  replace h := asS_inv h; obtain ⟨z30, rfl, h⟩ := h
  replace h := popN_inv h; obtain ⟨rfl, h⟩ := h
  replace h := popB_inv h; obtain ⟨c31, e32, rfl, h⟩ := h
  replace h := popA_inv h; obtain ⟨v33, c34, rfl, h⟩ := h
  replace h := asI_inv h; obtain ⟨z35, rfl, h⟩ := h
  replace h := popA_inv h; obtain ⟨v36, c37, rfl, h⟩ := h
  replace h := asI_inv h; obtain ⟨z38, rfl, h⟩ := h
  replace h := popA_inv h; obtain ⟨v39, c40, rfl, h⟩ := h
  replace h := asS_inv h; obtain ⟨z41, rfl, h⟩ := h
  replace h := popN_inv h; obtain ⟨rfl, h⟩ := h
  replace h := popN_inv h; obtain ⟨rfl, h⟩ := h
  exact (logic_Join_j3_eq0 k K op0 (⟨z13, z16, z19⟩ : S29) (⟨z24, z27, z30⟩ : S29) (⟨z35, z38, z41⟩ : S29)).trans h
theorem logic_Join_cok {ρ : Type} (k : Nat) : COK (logic_Join_cfg (ρ := ρ) k) (logic_Join_G k) logic_Join_code :=
  cok_of (tl := []) (tj := [(3, logic_Join_j3_s k)]) (tb := []) rfl rfl rfl (nil_all (by kernel_rfl)) (all_nth 1 (by kernel_rfl) ⟨join_case (by kernel_rfl) rfl (logic_Join_j3_ok0 k), trivial⟩) (fun p hp => by cases hp)
noncomputable def logic_Join_enc (r : S29 × Int) : AV UU := .pv (.tup [.typ (.s29 r.1), .int .i64 r.2])
noncomputable def logic_Join_dec (v : AV UU) (_ : List (List (AV UU))) : Option (S29 × Int) :=
asT v fun q1 =>
popA q1 fun p2 q3 =>
as_s29 (.pv p2) fun r0 =>
popA q3 fun p4 q5 =>
asI .i64 (.pv p4) fun r1 =>
popN q5 <|
some (r0, r1)
theorem logic_Join_dec_enc (v : AV UU) (b : List (List (AV UU))) (r : S29 × Int) (h : logic_Join_dec v b = some r) : v = logic_Join_enc r := by
  unfold logic_Join_dec at h
  replace h := asT_inv h; obtain ⟨q1, rfl, h⟩ := h
  replace h := popA_inv h; obtain ⟨p2, q3, rfl, h⟩ := h
  replace h := as_s29_inv h; obtain ⟨r0, e, h⟩ := h; cases e
  replace h := popA_inv h; obtain ⟨p4, q5, rfl, h⟩ := h
  replace h := asI_inv h; obtain ⟨r1, e, h⟩ := h; cases e
  replace h := popN_inv h; obtain ⟨rfl, h⟩ := h
  cases h
  rfl
theorem logic_Join_eq (k : Nat) (op0 : Int) (a1 : S29) (b2 : S29) : bodyK UX (logic_Join_cfg k) (logic_Join_G k) Tryd.f62 [.pv (.int .i64 op0), .pv (.typ (.s29 a1)), .pv (.typ (.s29 b2))] [] logic_Join_dec = logic_Join k op0 a1 b2 := by kernel_rfl
theorem logic_Join_con (k : Nat) (op0 : Int) (a1 : S29) (b2 : S29) (r : S29 × Int) (h : logic_Join k op0 a1 b2 = some r) : Con (X := UX) Tryd.prog 62 [.pv (.int .i64 op0), .pv (.typ (.s29 a1)), .pv (.typ (.s29 b2))] [] (logic_Join_enc r) [] :=
  con_of_body xok tok Tryd.func62 logic_Join_body (logic_Join_gok k) rfl (logic_Join_cok k) (of_decide_eq_true (by kernel_rfl)) logic_Join_dec_enc ((logic_Join_eq k op0 a1 b2).trans h)
noncomputable def logic_Join_an {ρ : Type} (k : Nat) : An UX ρ := fun args bx K =>
popA args fun v1 a2 =>
asI .i64 v1 fun op0 =>
popA a2 fun v3 a4 =>
as_s29 v3 fun a1 =>
popA a4 fun v5 a6 =>
as_s29 v5 fun b2 =>
popN a6 <|
popN bx <|
(logic_Join k op0 a1 b2).bind fun r => K (logic_Join_enc r) []
theorem logic_Join_ok {ρ : Type} (k : Nat) : AnsOK Tryd.prog 62 (logic_Join_an (ρ := ρ) k) := by
  intro args bx K r h
  unfold logic_Join_an at h
  replace h := popA_inv h; obtain ⟨v1, a2, rfl, h⟩ := h
  replace h := asI_inv h; obtain ⟨op0, rfl, h⟩ := h
  replace h := popA_inv h; obtain ⟨v3, a4, rfl, h⟩ := h
  replace h := as_s29_inv h; obtain ⟨a1, rfl, h⟩ := h
  replace h := popA_inv h; obtain ⟨v5, a6, rfl, h⟩ := h
  replace h := as_s29_inv h; obtain ⟨b2, rfl, h⟩ := h
  replace h := popN_inv h; obtain ⟨rfl, h⟩ := h
  replace h := popN_inv h; obtain ⟨rfl, h⟩ := h
  replace h := bind_inv h
  obtain ⟨x, hx, h⟩ := h
  exact ⟨there_of Tryd.func62 (by kernel_rfl) logic_Join_body, _, _, h, logic_Join_con k op0 a1 b2 x hx⟩
end Go.Proofs.YtjkgphpmdkbpfaaDoor.V
