/-
  What the program's functions answer: the printed functions' answers.
-/
import Derived.Test.YtjkgphpmdkbpfaaDoorVG3
namespace Go.Proofs.YtjkgphpmdkbpfaaDoor.V
open Go Go.AX
/-! cadastre/vm.good -/
noncomputable def vm_good_code : Code := match Tryd.f27.body with | some c => c | none => .skip
theorem vm_good_body : Tryd.f27.body = some vm_good_code := by kernel_rfl
noncomputable def vm_good_G {ρ : Type} (k : Nat) : Ans UX ρ := gk 46 (vm_reg_an k) (gk 40 (value_Good_an k) (gnil))
theorem vm_good_gok {ρ : Type} (k : Nat) : GOK Tryd.prog (vm_good_G (ρ := ρ) k) := gok_cons (vm_reg_ok k) (gok_cons (value_Good_ok k) (gok_nil))
noncomputable def vm_good_j23_s {ρ : Type} (k : Nat) : Run UX ρ := fun s K =>
popS 3 s.env fun v1 e2 =>
asP 3 0 v1 <|
popS 7 e2 fun v3 e4 =>
asP 7 0 v3 <|
popS 9 e4 fun v5 e6 =>
asB v5 fun jump9 =>
popN e6 <|
popB 3 s.hp fun c7 e8 =>
popA c7 fun v9 c10 =>
asI .i64 v9 fun z11 =>
popA c10 fun v12 c13 =>
asI .i64 v12 fun z14 =>
popA c13 fun v15 c16 =>
asI .i64 v15 fun z17 =>
popA c16 fun v18 c19 =>
asI .i64 v18 fun z20 =>
popA c19 fun v21 c22 =>
asI .i64 v21 fun z23 =>
popA c22 fun v24 c25 =>
asI .i64 v24 fun z26 =>
popA c25 fun v27 c28 =>
asS v27 fun z29 =>
popA c28 fun v30 c31 =>
asI .i64 v30 fun z32 =>
popN c31 <|
popB 7 e8 fun c33 e34 =>
popA c33 fun v35 c36 =>
asI .i64 v35 fun z37 =>
popA c36 fun v38 c39 =>
asI .i64 v38 fun z40 =>
popA c39 fun v41 c42 =>
asI .i64 v41 fun z43 =>
popA c42 fun v44 c45 =>
asI .i64 v44 fun z46 =>
popA c45 fun v47 c48 =>
asI .i64 v47 fun z49 =>
popA c48 fun v50 c51 =>
asI .i64 v50 fun z52 =>
popA c51 fun v53 c54 =>
asS v53 fun z55 =>
popA c54 fun v56 c57 =>
asI .i64 v56 fun z58 =>
popN c57 <|
popN e34 <|
vm_good_j23 k (fun ok8 c3 x7 => K .nxt ⟨[(3, .ptr 3 0), (7, .ptr 7 0), (8, .pv (.bool ok8))], [(3, [.pv (.int .i64 c3.f0), .pv (.int .i64 c3.f1), .pv (.int .i64 c3.f2), .pv (.int .i64 c3.f3), .pv (.int .i64 c3.f4.f0), .pv (.int .i64 c3.f4.f1), .pv (.str c3.f4.f2), .pv (.int .i64 c3.f5)]), (7, [.pv (.int .i64 x7.f0), .pv (.int .i64 x7.f1), .pv (.int .i64 x7.f2), .pv (.int .i64 x7.f3), .pv (.int .i64 x7.f4.f0), .pv (.int .i64 x7.f4.f1), .pv (.str x7.f4.f2), .pv (.int .i64 x7.f5)])]⟩) jump9 (⟨z11, z14, z17, z20, (⟨z23, z26, z29⟩ : S29), z32⟩ : S43) (⟨z37, z40, z43, z46, (⟨z49, z52, z55⟩ : S29), z58⟩ : S43)
noncomputable def vm_good_j25_s {ρ : Type} (k : Nat) : Run UX ρ := fun s K =>
popS 3 s.env fun v1 e2 =>
asP 3 0 v1 <|
popS 7 e2 fun v3 e4 =>
asP 7 0 v3 <|
popS 31 e4 fun v5 e6 =>
asI .i64 v5 fun t31 =>
popN e6 <|
popB 3 s.hp fun c7 e8 =>
popA c7 fun v9 c10 =>
asI .i64 v9 fun z11 =>
popA c10 fun v12 c13 =>
asI .i64 v12 fun z14 =>
popA c13 fun v15 c16 =>
asI .i64 v15 fun z17 =>
popA c16 fun v18 c19 =>
asI .i64 v18 fun z20 =>
popA c19 fun v21 c22 =>
asI .i64 v21 fun z23 =>
popA c22 fun v24 c25 =>
asI .i64 v24 fun z26 =>
popA c25 fun v27 c28 =>
asS v27 fun z29 =>
popA c28 fun v30 c31 =>
asI .i64 v30 fun z32 =>
popN c31 <|
popB 7 e8 fun c33 e34 =>
popA c33 fun v35 c36 =>
asI .i64 v35 fun z37 =>
popA c36 fun v38 c39 =>
asI .i64 v38 fun z40 =>
popA c39 fun v41 c42 =>
asI .i64 v41 fun z43 =>
popA c42 fun v44 c45 =>
asI .i64 v44 fun z46 =>
popA c45 fun v47 c48 =>
asI .i64 v47 fun z49 =>
popA c48 fun v50 c51 =>
asI .i64 v50 fun z52 =>
popA c51 fun v53 c54 =>
asS v53 fun z55 =>
popA c54 fun v56 c57 =>
asI .i64 v56 fun z58 =>
popN c57 <|
popN e34 <|
vm_good_j25 k (fun ok8 c3 x7 => K .nxt ⟨[(3, .ptr 3 0), (7, .ptr 7 0), (8, .pv (.bool ok8))], [(3, [.pv (.int .i64 c3.f0), .pv (.int .i64 c3.f1), .pv (.int .i64 c3.f2), .pv (.int .i64 c3.f3), .pv (.int .i64 c3.f4.f0), .pv (.int .i64 c3.f4.f1), .pv (.str c3.f4.f2), .pv (.int .i64 c3.f5)]), (7, [.pv (.int .i64 x7.f0), .pv (.int .i64 x7.f1), .pv (.int .i64 x7.f2), .pv (.int .i64 x7.f3), .pv (.int .i64 x7.f4.f0), .pv (.int .i64 x7.f4.f1), .pv (.str x7.f4.f2), .pv (.int .i64 x7.f5)])]⟩) (fun t6 => K .ret ⟨[(6, .pv (.bool t6))], []⟩) t31 (⟨z11, z14, z17, z20, (⟨z23, z26, z29⟩ : S29), z32⟩ : S43) (⟨z37, z40, z43, z46, (⟨z49, z52, z55⟩ : S29), z58⟩ : S43)
noncomputable def vm_good_j4_s {ρ : Type} (k : Nat) : Run UX ρ := fun s K =>
popS 2 s.env fun v1 e2 =>
asI .i64 v1 fun n2 =>
popS 3 e2 fun v3 e4 =>
asP 3 0 v3 <|
popS 7 e4 fun v5 e6 =>
asP 7 0 v5 <|
popS 8 e6 fun v7 e8 =>
asB v7 fun ok8 =>
popS 9 e8 fun v9 e10 =>
asB v9 fun jump9 =>
popN e10 <|
popB 3 s.hp fun c11 e12 =>
popA c11 fun v13 c14 =>
asI .i64 v13 fun z15 =>
popA c14 fun v16 c17 =>
asI .i64 v16 fun z18 =>
popA c17 fun v19 c20 =>
asI .i64 v19 fun z21 =>
popA c20 fun v22 c23 =>
asI .i64 v22 fun z24 =>
popA c23 fun v25 c26 =>
asI .i64 v25 fun z27 =>
popA c26 fun v28 c29 =>
asI .i64 v28 fun z30 =>
popA c29 fun v31 c32 =>
asS v31 fun z33 =>
popA c32 fun v34 c35 =>
asI .i64 v34 fun z36 =>
popN c35 <|
popB 7 e12 fun c37 e38 =>
popA c37 fun v39 c40 =>
asI .i64 v39 fun z41 =>
popA c40 fun v42 c43 =>
asI .i64 v42 fun z44 =>
popA c43 fun v45 c46 =>
asI .i64 v45 fun z47 =>
popA c46 fun v48 c49 =>
asI .i64 v48 fun z50 =>
popA c49 fun v51 c52 =>
asI .i64 v51 fun z53 =>
popA c52 fun v54 c55 =>
asI .i64 v54 fun z56 =>
popA c55 fun v57 c58 =>
asS v57 fun z59 =>
popA c58 fun v60 c61 =>
asI .i64 v60 fun z62 =>
popN c61 <|
popN e38 <|
vm_good_j4 k (fun t6 => K .ret ⟨[(6, .pv (.bool t6))], []⟩) n2 ok8 jump9 (⟨z15, z18, z21, z24, (⟨z27, z30, z33⟩ : S29), z36⟩ : S43) (⟨z41, z44, z47, z50, (⟨z53, z56, z59⟩ : S29), z62⟩ : S43)
noncomputable def vm_good_j3_s {ρ : Type} (k : Nat) : Run UX ρ := fun s K =>
popS 1 s.env fun v1 e2 =>
asI .i64 v1 fun all1 =>
popS 2 e2 fun v3 e4 =>
asI .i64 v3 fun n2 =>
popS 3 e4 fun v5 e6 =>
asP 3 0 v5 <|
popS 7 e6 fun v7 e8 =>
asP 7 0 v7 <|
popS 8 e8 fun v9 e10 =>
asB v9 fun ok8 =>
popN e10 <|
popB 3 s.hp fun c11 e12 =>
popA c11 fun v13 c14 =>
asI .i64 v13 fun z15 =>
popA c14 fun v16 c17 =>
asI .i64 v16 fun z18 =>
popA c17 fun v19 c20 =>
asI .i64 v19 fun z21 =>
popA c20 fun v22 c23 =>
asI .i64 v22 fun z24 =>
popA c23 fun v25 c26 =>
asI .i64 v25 fun z27 =>
popA c26 fun v28 c29 =>
asI .i64 v28 fun z30 =>
popA c29 fun v31 c32 =>
asS v31 fun z33 =>
popA c32 fun v34 c35 =>
asI .i64 v34 fun z36 =>
popN c35 <|
popB 7 e12 fun c37 e38 =>
popA c37 fun v39 c40 =>
asI .i64 v39 fun z41 =>
popA c40 fun v42 c43 =>
asI .i64 v42 fun z44 =>
popA c43 fun v45 c46 =>
asI .i64 v45 fun z47 =>
popA c46 fun v48 c49 =>
asI .i64 v48 fun z50 =>
popA c49 fun v51 c52 =>
asI .i64 v51 fun z53 =>
popA c52 fun v54 c55 =>
asI .i64 v54 fun z56 =>
popA c55 fun v57 c58 =>
asS v57 fun z59 =>
popA c58 fun v60 c61 =>
asI .i64 v60 fun z62 =>
popN c61 <|
popN e38 <|
vm_good_j3 k (fun t6 => K .ret ⟨[(6, .pv (.bool t6))], []⟩) all1 n2 ok8 (⟨z15, z18, z21, z24, (⟨z27, z30, z33⟩ : S29), z36⟩ : S43) (⟨z41, z44, z47, z50, (⟨z53, z56, z59⟩ : S29), z62⟩ : S43)
noncomputable def vm_good_cfg {ρ : Type} (k : Nat) : Cfg UX ρ where
  live i := (assoc [(0, [0, 1, 2]), (1, [1, 2, 3]), (2, [1, 2, 3, 7]), (3, [1, 2, 3, 7, 8]), (4, [2, 3, 7, 8, 9]), (5, []), (6, [2, 3, 7, 8, 9, 31]), (7, [3, 7]), (8, [3, 7]), (9, [2, 3, 7, 8, 9, 31]), (10, [2, 3, 7]), (11, [2, 3, 7]), (12, [3, 7, 8, 9, 31]), (13, [3, 7, 8]), (14, [3, 7, 8]), (15, [3, 7, 8, 9, 31]), (16, [3, 7, 8]), (17, [3, 7, 8]), (18, [3, 7, 9, 31]), (19, [3, 7, 9]), (20, [3, 7, 9]), (21, [3, 7, 9, 31]), (22, [3, 7, 9, 31]), (23, [3, 7, 9]), (24, [3, 7, 9]), (25, [3, 7, 31]), (26, [3, 7]), (27, [3, 7]), (28, [3, 7, 8])] i).getD []
  boxes i := (assoc [(0, []), (1, [3]), (2, [3, 7]), (3, [3, 7]), (4, [3, 7]), (5, []), (6, [3, 7]), (7, [3, 7]), (8, [3, 7]), (9, [3, 7]), (10, [3, 7]), (11, [3, 7]), (12, [3, 7]), (13, [3, 7]), (14, [3, 7]), (15, [3, 7]), (16, [3, 7]), (17, [3, 7]), (18, [3, 7]), (19, [3, 7]), (20, [3, 7]), (21, [3, 7]), (22, [3, 7]), (23, [3, 7]), (24, [3, 7]), (25, [3, 7]), (26, [3, 7]), (27, [3, 7]), (28, [3, 7])] i).getD []
  tk i := (assoc [] i).getD []
  n := 157
  labelR l := (assoc [] l).getD 0
  loops := assoc []
  labels := assoc []
  joins := assoc [(23, vm_good_j23_s k), (25, vm_good_j25_s k), (4, vm_good_j4_s k), (3, vm_good_j3_s k)]
  xl i e := match e with
    | .nxt => assoc [(23, ([3, 7, 8], [3, 7])), (25, ([3, 7, 8], [3, 7]))] i
    | .ret => assoc [(25, ([6], [])), (4, ([6], [])), (3, ([6], []))] i
    | .exit j => (assoc [] i).bind fun l => assoc l j
    | .goto j => (assoc [] i).bind fun l => assoc l j
noncomputable def vm_good_L : List Code := selI [] (loopsOf vm_good_code)
noncomputable def vm_good_J : List Code := selI [23, 25, 4, 3] (joinsOf vm_good_code)
noncomputable def vm_good_S : List Code := scopesOf vm_good_code
theorem vm_good_j3_eq0 {ρ : Type} (k : Nat) (K : Ex → St UU → Option ρ) (all1 : Int) (n2 : Int) (ok8 : Bool) (c3 : S43) (x7 : S43) : exec UX (vm_good_cfg k) (vm_good_G k) (vm_good_J.getD 0 .skip) ⟨[(1, .pv (.int .i64 all1)), (2, .pv (.int .i64 n2)), (3, .ptr 3 0), (7, .ptr 7 0), (8, .pv (.bool ok8))], [(3, [.pv (.int .i64 c3.f0), .pv (.int .i64 c3.f1), .pv (.int .i64 c3.f2), .pv (.int .i64 c3.f3), .pv (.int .i64 c3.f4.f0), .pv (.int .i64 c3.f4.f1), .pv (.str c3.f4.f2), .pv (.int .i64 c3.f5)]), (7, [.pv (.int .i64 x7.f0), .pv (.int .i64 x7.f1), .pv (.int .i64 x7.f2), .pv (.int .i64 x7.f3), .pv (.int .i64 x7.f4.f0), .pv (.int .i64 x7.f4.f1), .pv (.str x7.f4.f2), .pv (.int .i64 x7.f5)])]⟩ (nrmK UX (vm_good_cfg k) 3 K) = vm_good_j3 k (fun t6 => K .ret ⟨[(6, .pv (.bool t6))], []⟩) all1 n2 ok8 c3 x7 := by kernel_rfl
theorem vm_good_j3_ok0 {ρ : Type} (k : Nat) : JoinOK UX (vm_good_cfg (ρ := ρ) k) (vm_good_G k) (vm_good_J.getD 0 .skip) 3 (vm_good_j3_s k) := by
  intro s K r h
  obtain ⟨env, hp⟩ := s
  unfold vm_good_j3_s at h
  replace h := popS_inv h; obtain ⟨v1, e2, rfl, h⟩ := h
  replace h := asI_inv h; obtain ⟨all1, rfl, h⟩ := h
  replace h := popS_inv h; obtain ⟨v3, e4, rfl, h⟩ := h
  replace h := asI_inv h; obtain ⟨n2, rfl, h⟩ := h
  replace h := popS_inv h; obtain ⟨v5, e6, rfl, h⟩ := h
  replace h := asP_inv h; obtain ⟨rfl, h⟩ := h
  replace h := popS_inv h; obtain ⟨v7, e8, rfl, h⟩ := h
  replace h := asP_inv h; obtain ⟨rfl, h⟩ := h
  replace h := popS_inv h; obtain ⟨v9, e10, rfl, h⟩ := h
  replace h := asB_inv h; obtain ⟨ok8, rfl, h⟩ := h
  replace h := popN_inv h; obtain ⟨rfl, h⟩ := h
  replace h := popB_inv h; obtain ⟨c11, e12, rfl, h⟩ := h
  replace h := popA_inv h; obtain ⟨v13, c14, rfl, h⟩ := h
  replace h := asI_inv h; obtain ⟨z15, rfl, h⟩ := h
  replace h := popA_inv h; obtain ⟨v16, c17, rfl, h⟩ := h
  replace h := asI_inv h; obtain ⟨z18, rfl, h⟩ := h
  replace h := popA_inv h; obtain ⟨v19, c20, rfl, h⟩ := h
  replace h := asI_inv h; obtain ⟨z21, rfl, h⟩ := h
  replace h := popA_inv h; obtain ⟨v22, c23, rfl, h⟩ := h
  replace h := asI_inv h; obtain ⟨z24, rfl, h⟩ := h
  replace h := popA_inv h; obtain ⟨v25, c26, rfl, h⟩ := h
  replace h := asI_inv h; obtain ⟨z27, rfl, h⟩ := h
  replace h := popA_inv h; obtain ⟨v28, c29, rfl, h⟩ := h
  replace h := asI_inv h; obtain ⟨z30, rfl, h⟩ := h
  replace h := popA_inv h; obtain ⟨v31, c32, rfl, h⟩ := h
  replace h := asS_inv h; obtain ⟨z33, rfl, h⟩ := h
  replace h := popA_inv h; obtain ⟨v34, c35, rfl, h⟩ := h
  replace h := asI_inv h; obtain ⟨z36, rfl, h⟩ := h
  replace h := popN_inv h; obtain ⟨rfl, h⟩ := h
  replace h := popB_inv h; obtain ⟨c37, e38, rfl, h⟩ := h
  replace h := popA_inv h; obtain ⟨v39, c40, rfl, h⟩ := h
  replace h := asI_inv h; obtain ⟨z41, rfl, h⟩ := h
  replace h := popA_inv h; obtain ⟨v42, c43, rfl, h⟩ := h
  replace h := asI_inv h; obtain ⟨z44, rfl, h⟩ := h
  replace h := popA_inv h; obtain ⟨v45, c46, rfl, h⟩ := h
  replace h := asI_inv h; obtain ⟨z47, rfl, h⟩ := h
  replace h := popA_inv h; obtain ⟨v48, c49, rfl, h⟩ := h
  replace h := asI_inv h; obtain ⟨z50, rfl, h⟩ := h
  replace h := popA_inv h; obtain ⟨v51, c52, rfl, h⟩ := h
  replace h := asI_inv h; obtain ⟨z53, rfl, h⟩ := h
  replace h := popA_inv h; obtain ⟨v54, c55, rfl, h⟩ := h
  replace h := asI_inv h; obtain ⟨z56, rfl, h⟩ := h
  replace h := popA_inv h; obtain ⟨v57, c58, rfl, h⟩ := h
  replace h := asS_inv h; obtain ⟨z59, rfl, h⟩ := h
  replace h := popA_inv h; obtain ⟨v60, c61, rfl, h⟩ := h
  replace h := asI_inv h; obtain ⟨z62, rfl, h⟩ := h
  replace h := popN_inv h; obtain ⟨rfl, h⟩ := h
  replace h := popN_inv h; obtain ⟨rfl, h⟩ := h
  exact (vm_good_j3_eq0 k K all1 n2 ok8 (⟨z15, z18, z21, z24, (⟨z27, z30, z33⟩ : S29), z36⟩ : S43) (⟨z41, z44, z47, z50, (⟨z53, z56, z59⟩ : S29), z62⟩ : S43)).trans h
theorem vm_good_j4_eq1 {ρ : Type} (k : Nat) (K : Ex → St UU → Option ρ) (n2 : Int) (ok8 : Bool) (jump9 : Bool) (c3 : S43) (x7 : S43) : exec UX (vm_good_cfg k) (vm_good_G k) (vm_good_J.getD 1 .skip) ⟨[(2, .pv (.int .i64 n2)), (3, .ptr 3 0), (7, .ptr 7 0), (8, .pv (.bool ok8)), (9, .pv (.bool jump9))], [(3, [.pv (.int .i64 c3.f0), .pv (.int .i64 c3.f1), .pv (.int .i64 c3.f2), .pv (.int .i64 c3.f3), .pv (.int .i64 c3.f4.f0), .pv (.int .i64 c3.f4.f1), .pv (.str c3.f4.f2), .pv (.int .i64 c3.f5)]), (7, [.pv (.int .i64 x7.f0), .pv (.int .i64 x7.f1), .pv (.int .i64 x7.f2), .pv (.int .i64 x7.f3), .pv (.int .i64 x7.f4.f0), .pv (.int .i64 x7.f4.f1), .pv (.str x7.f4.f2), .pv (.int .i64 x7.f5)])]⟩ (nrmK UX (vm_good_cfg k) 4 K) = vm_good_j4 k (fun t6 => K .ret ⟨[(6, .pv (.bool t6))], []⟩) n2 ok8 jump9 c3 x7 := by kernel_rfl
theorem vm_good_j4_ok1 {ρ : Type} (k : Nat) : JoinOK UX (vm_good_cfg (ρ := ρ) k) (vm_good_G k) (vm_good_J.getD 1 .skip) 4 (vm_good_j4_s k) := by
  intro s K r h
  obtain ⟨env, hp⟩ := s
  unfold vm_good_j4_s at h
  replace h := popS_inv h; obtain ⟨v1, e2, rfl, h⟩ := h
  replace h := asI_inv h; obtain ⟨n2, rfl, h⟩ := h
  replace h := popS_inv h; obtain ⟨v3, e4, rfl, h⟩ := h
  replace h := asP_inv h; obtain ⟨rfl, h⟩ := h
  replace h := popS_inv h; obtain ⟨v5, e6, rfl, h⟩ := h
  replace h := asP_inv h; obtain ⟨rfl, h⟩ := h
  replace h := popS_inv h; obtain ⟨v7, e8, rfl, h⟩ := h
  replace h := asB_inv h; obtain ⟨ok8, rfl, h⟩ := h
  replace h := popS_inv h; obtain ⟨v9, e10, rfl, h⟩ := h
  replace h := asB_inv h; obtain ⟨jump9, rfl, h⟩ := h
  replace h := popN_inv h; obtain ⟨rfl, h⟩ := h
  replace h := popB_inv h; obtain ⟨c11, e12, rfl, h⟩ := h
  replace h := popA_inv h; obtain ⟨v13, c14, rfl, h⟩ := h
  replace h := asI_inv h; obtain ⟨z15, rfl, h⟩ := h
  replace h := popA_inv h; obtain ⟨v16, c17, rfl, h⟩ := h
  replace h := asI_inv h; obtain ⟨z18, rfl, h⟩ := h
  replace h := popA_inv h; obtain ⟨v19, c20, rfl, h⟩ := h
  replace h := asI_inv h; obtain ⟨z21, rfl, h⟩ := h
  replace h := popA_inv h; obtain ⟨v22, c23, rfl, h⟩ := h
  replace h := asI_inv h; obtain ⟨z24, rfl, h⟩ := h
  replace h := popA_inv h; obtain ⟨v25, c26, rfl, h⟩ := h
  replace h := asI_inv h; obtain ⟨z27, rfl, h⟩ := h
  replace h := popA_inv h; obtain ⟨v28, c29, rfl, h⟩ := h
  replace h := asI_inv h; obtain ⟨z30, rfl, h⟩ := h
  replace h := popA_inv h; obtain ⟨v31, c32, rfl, h⟩ := h
  replace h := asS_inv h; obtain ⟨z33, rfl, h⟩ := h
  replace h := popA_inv h; obtain ⟨v34, c35, rfl, h⟩ := h
  replace h := asI_inv h; obtain ⟨z36, rfl, h⟩ := h
  replace h := popN_inv h; obtain ⟨rfl, h⟩ := h
  replace h := popB_inv h; obtain ⟨c37, e38, rfl, h⟩ := h
  replace h := popA_inv h; obtain ⟨v39, c40, rfl, h⟩ := h
  replace h := asI_inv h; obtain ⟨z41, rfl, h⟩ := h
  replace h := popA_inv h; obtain ⟨v42, c43, rfl, h⟩ := h
  replace h := asI_inv h; obtain ⟨z44, rfl, h⟩ := h
  replace h := popA_inv h; obtain ⟨v45, c46, rfl, h⟩ := h
  replace h := asI_inv h; obtain ⟨z47, rfl, h⟩ := h
  replace h := popA_inv h; obtain ⟨v48, c49, rfl, h⟩ := h
  replace h := asI_inv h; obtain ⟨z50, rfl, h⟩ := h
  replace h := popA_inv h; obtain ⟨v51, c52, rfl, h⟩ := h
  replace h := asI_inv h; obtain ⟨z53, rfl, h⟩ := h
  replace h := popA_inv h; obtain ⟨v54, c55, rfl, h⟩ := h
  replace h := asI_inv h; obtain ⟨z56, rfl, h⟩ := h
  replace h := popA_inv h; obtain ⟨v57, c58, rfl, h⟩ := h
  replace h := asS_inv h; obtain ⟨z59, rfl, h⟩ := h
  replace h := popA_inv h; obtain ⟨v60, c61, rfl, h⟩ := h
  replace h := asI_inv h; obtain ⟨z62, rfl, h⟩ := h
  replace h := popN_inv h; obtain ⟨rfl, h⟩ := h
  replace h := popN_inv h; obtain ⟨rfl, h⟩ := h
  exact (vm_good_j4_eq1 k K n2 ok8 jump9 (⟨z15, z18, z21, z24, (⟨z27, z30, z33⟩ : S29), z36⟩ : S43) (⟨z41, z44, z47, z50, (⟨z53, z56, z59⟩ : S29), z62⟩ : S43)).trans h
theorem vm_good_j23_eq2 {ρ : Type} (k : Nat) (K : Ex → St UU → Option ρ) (jump9 : Bool) (c3 : S43) (x7 : S43) : exec UX (vm_good_cfg k) (vm_good_G k) (vm_good_J.getD 2 .skip) ⟨[(3, .ptr 3 0), (7, .ptr 7 0), (9, .pv (.bool jump9))], [(3, [.pv (.int .i64 c3.f0), .pv (.int .i64 c3.f1), .pv (.int .i64 c3.f2), .pv (.int .i64 c3.f3), .pv (.int .i64 c3.f4.f0), .pv (.int .i64 c3.f4.f1), .pv (.str c3.f4.f2), .pv (.int .i64 c3.f5)]), (7, [.pv (.int .i64 x7.f0), .pv (.int .i64 x7.f1), .pv (.int .i64 x7.f2), .pv (.int .i64 x7.f3), .pv (.int .i64 x7.f4.f0), .pv (.int .i64 x7.f4.f1), .pv (.str x7.f4.f2), .pv (.int .i64 x7.f5)])]⟩ (nrmK UX (vm_good_cfg k) 23 K) = vm_good_j23 k (fun ok8 c3 x7 => K .nxt ⟨[(3, .ptr 3 0), (7, .ptr 7 0), (8, .pv (.bool ok8))], [(3, [.pv (.int .i64 c3.f0), .pv (.int .i64 c3.f1), .pv (.int .i64 c3.f2), .pv (.int .i64 c3.f3), .pv (.int .i64 c3.f4.f0), .pv (.int .i64 c3.f4.f1), .pv (.str c3.f4.f2), .pv (.int .i64 c3.f5)]), (7, [.pv (.int .i64 x7.f0), .pv (.int .i64 x7.f1), .pv (.int .i64 x7.f2), .pv (.int .i64 x7.f3), .pv (.int .i64 x7.f4.f0), .pv (.int .i64 x7.f4.f1), .pv (.str x7.f4.f2), .pv (.int .i64 x7.f5)])]⟩) jump9 c3 x7 := by kernel_rfl
theorem vm_good_j23_ok2 {ρ : Type} (k : Nat) : JoinOK UX (vm_good_cfg (ρ := ρ) k) (vm_good_G k) (vm_good_J.getD 2 .skip) 23 (vm_good_j23_s k) := by
  intro s K r h
  obtain ⟨env, hp⟩ := s
  unfold vm_good_j23_s at h
  replace h := popS_inv h; obtain ⟨v1, e2, rfl, h⟩ := h
  replace h := asP_inv h; obtain ⟨rfl, h⟩ := h
  replace h := popS_inv h; obtain ⟨v3, e4, rfl, h⟩ := h
  replace h := asP_inv h; obtain ⟨rfl, h⟩ := h
  replace h := popS_inv h; obtain ⟨v5, e6, rfl, h⟩ := h
  replace h := asB_inv h; obtain ⟨jump9, rfl, h⟩ := h
  replace h := popN_inv h; obtain ⟨rfl, h⟩ := h
  replace h := popB_inv h; obtain ⟨c7, e8, rfl, h⟩ := h
  replace h := popA_inv h; obtain ⟨v9, c10, rfl, h⟩ := h
  replace h := asI_inv h; obtain ⟨z11, rfl, h⟩ := h
  replace h := popA_inv h; obtain ⟨v12, c13, rfl, h⟩ := h
  replace h := asI_inv h; obtain ⟨z14, rfl, h⟩ := h
  replace h := popA_inv h; obtain ⟨v15, c16, rfl, h⟩ := h
  replace h := asI_inv h; obtain ⟨z17, rfl, h⟩ := h
  replace h := popA_inv h; obtain ⟨v18, c19, rfl, h⟩ := h
  replace h := asI_inv h; obtain ⟨z20, rfl, h⟩ := h
  replace h := popA_inv h; obtain ⟨v21, c22, rfl, h⟩ := h
  replace h := asI_inv h; obtain ⟨z23, rfl, h⟩ := h
  replace h := popA_inv h; obtain ⟨v24, c25, rfl, h⟩ := h
  replace h := asI_inv h; obtain ⟨z26, rfl, h⟩ := h
  replace h := popA_inv h; obtain ⟨v27, c28, rfl, h⟩ := h
  replace h := asS_inv h; obtain ⟨z29, rfl, h⟩ := h
  replace h := popA_inv h; obtain ⟨v30, c31, rfl, h⟩ := h
  replace h := asI_inv h; obtain ⟨z32, rfl, h⟩ := h
  replace h := popN_inv h; obtain ⟨rfl, h⟩ := h
  replace h := popB_inv h; obtain ⟨c33, e34, rfl, h⟩ := h
  replace h := popA_inv h; obtain ⟨v35, c36, rfl, h⟩ := h
  replace h := asI_inv h; obtain ⟨z37, rfl, h⟩ := h
  replace h := popA_inv h; obtain ⟨v38, c39, rfl, h⟩ := h
  replace h := asI_inv h; obtain ⟨z40, rfl, h⟩ := h
  replace h := popA_inv h; obtain ⟨v41, c42, rfl, h⟩ := h
  replace h := asI_inv h; obtain ⟨z43, rfl, h⟩ := h
  replace h := popA_inv h; obtain ⟨v44, c45, rfl, h⟩ := h
  replace h := asI_inv h; obtain ⟨z46, rfl, h⟩ := h
  replace h := popA_inv h; obtain ⟨v47, c48, rfl, h⟩ := h
  replace h := asI_inv h; obtain ⟨z49, rfl, h⟩ := h
  replace h := popA_inv h; obtain ⟨v50, c51, rfl, h⟩ := h
  replace h := asI_inv h; obtain ⟨z52, rfl, h⟩ := h
  replace h := popA_inv h; obtain ⟨v53, c54, rfl, h⟩ := h
  replace h := asS_inv h; obtain ⟨z55, rfl, h⟩ := h
  replace h := popA_inv h; obtain ⟨v56, c57, rfl, h⟩ := h
  replace h := asI_inv h; obtain ⟨z58, rfl, h⟩ := h
  replace h := popN_inv h; obtain ⟨rfl, h⟩ := h
  replace h := popN_inv h; obtain ⟨rfl, h⟩ := h
  exact (vm_good_j23_eq2 k K jump9 (⟨z11, z14, z17, z20, (⟨z23, z26, z29⟩ : S29), z32⟩ : S43) (⟨z37, z40, z43, z46, (⟨z49, z52, z55⟩ : S29), z58⟩ : S43)).trans h
theorem vm_good_j25_eq3 {ρ : Type} (k : Nat) (K : Ex → St UU → Option ρ) (t31 : Int) (c3 : S43) (x7 : S43) : exec UX (vm_good_cfg k) (vm_good_G k) (vm_good_J.getD 3 .skip) ⟨[(3, .ptr 3 0), (7, .ptr 7 0), (31, .pv (.int .i64 t31))], [(3, [.pv (.int .i64 c3.f0), .pv (.int .i64 c3.f1), .pv (.int .i64 c3.f2), .pv (.int .i64 c3.f3), .pv (.int .i64 c3.f4.f0), .pv (.int .i64 c3.f4.f1), .pv (.str c3.f4.f2), .pv (.int .i64 c3.f5)]), (7, [.pv (.int .i64 x7.f0), .pv (.int .i64 x7.f1), .pv (.int .i64 x7.f2), .pv (.int .i64 x7.f3), .pv (.int .i64 x7.f4.f0), .pv (.int .i64 x7.f4.f1), .pv (.str x7.f4.f2), .pv (.int .i64 x7.f5)])]⟩ (nrmK UX (vm_good_cfg k) 25 K) = vm_good_j25 k (fun ok8 c3 x7 => K .nxt ⟨[(3, .ptr 3 0), (7, .ptr 7 0), (8, .pv (.bool ok8))], [(3, [.pv (.int .i64 c3.f0), .pv (.int .i64 c3.f1), .pv (.int .i64 c3.f2), .pv (.int .i64 c3.f3), .pv (.int .i64 c3.f4.f0), .pv (.int .i64 c3.f4.f1), .pv (.str c3.f4.f2), .pv (.int .i64 c3.f5)]), (7, [.pv (.int .i64 x7.f0), .pv (.int .i64 x7.f1), .pv (.int .i64 x7.f2), .pv (.int .i64 x7.f3), .pv (.int .i64 x7.f4.f0), .pv (.int .i64 x7.f4.f1), .pv (.str x7.f4.f2), .pv (.int .i64 x7.f5)])]⟩) (fun t6 => K .ret ⟨[(6, .pv (.bool t6))], []⟩) t31 c3 x7 := by kernel_rfl
theorem vm_good_j25_ok3 {ρ : Type} (k : Nat) : JoinOK UX (vm_good_cfg (ρ := ρ) k) (vm_good_G k) (vm_good_J.getD 3 .skip) 25 (vm_good_j25_s k) := by
  intro s K r h
  obtain ⟨env, hp⟩ := s
  unfold vm_good_j25_s at h
  replace h := popS_inv h; obtain ⟨v1, e2, rfl, h⟩ := h
  replace h := asP_inv h; obtain ⟨rfl, h⟩ := h
  replace h := popS_inv h; obtain ⟨v3, e4, rfl, h⟩ := h
  replace h := asP_inv h; obtain ⟨rfl, h⟩ := h
  replace h := popS_inv h; obtain ⟨v5, e6, rfl, h⟩ := h
  replace h := asI_inv h; obtain ⟨t31, rfl, h⟩ := h
  replace h := popN_inv h; obtain ⟨rfl, h⟩ := h
  replace h := popB_inv h; obtain ⟨c7, e8, rfl, h⟩ := h
  replace h := popA_inv h; obtain ⟨v9, c10, rfl, h⟩ := h
  replace h := asI_inv h; obtain ⟨z11, rfl, h⟩ := h
  replace h := popA_inv h; obtain ⟨v12, c13, rfl, h⟩ := h
  replace h := asI_inv h; obtain ⟨z14, rfl, h⟩ := h
  replace h := popA_inv h; obtain ⟨v15, c16, rfl, h⟩ := h
  replace h := asI_inv h; obtain ⟨z17, rfl, h⟩ := h
  replace h := popA_inv h; obtain ⟨v18, c19, rfl, h⟩ := h
  replace h := asI_inv h; obtain ⟨z20, rfl, h⟩ := h
  replace h := popA_inv h; obtain ⟨v21, c22, rfl, h⟩ := h
  replace h := asI_inv h; obtain ⟨z23, rfl, h⟩ := h
  replace h := popA_inv h; obtain ⟨v24, c25, rfl, h⟩ := h
  replace h := asI_inv h; obtain ⟨z26, rfl, h⟩ := h
  replace h := popA_inv h; obtain ⟨v27, c28, rfl, h⟩ := h
  replace h := asS_inv h; obtain ⟨z29, rfl, h⟩ := h
  replace h := popA_inv h; obtain ⟨v30, c31, rfl, h⟩ := h
  replace h := asI_inv h; obtain ⟨z32, rfl, h⟩ := h
  replace h := popN_inv h; obtain ⟨rfl, h⟩ := h
  replace h := popB_inv h; obtain ⟨c33, e34, rfl, h⟩ := h
  replace h := popA_inv h; obtain ⟨v35, c36, rfl, h⟩ := h
  replace h := asI_inv h; obtain ⟨z37, rfl, h⟩ := h
  replace h := popA_inv h; obtain ⟨v38, c39, rfl, h⟩ := h
  replace h := asI_inv h; obtain ⟨z40, rfl, h⟩ := h
  replace h := popA_inv h; obtain ⟨v41, c42, rfl, h⟩ := h
  replace h := asI_inv h; obtain ⟨z43, rfl, h⟩ := h
  replace h := popA_inv h; obtain ⟨v44, c45, rfl, h⟩ := h
  replace h := asI_inv h; obtain ⟨z46, rfl, h⟩ := h
  replace h := popA_inv h; obtain ⟨v47, c48, rfl, h⟩ := h
  replace h := asI_inv h; obtain ⟨z49, rfl, h⟩ := h
  replace h := popA_inv h; obtain ⟨v50, c51, rfl, h⟩ := h
  replace h := asI_inv h; obtain ⟨z52, rfl, h⟩ := h
  replace h := popA_inv h; obtain ⟨v53, c54, rfl, h⟩ := h
  replace h := asS_inv h; obtain ⟨z55, rfl, h⟩ := h
  replace h := popA_inv h; obtain ⟨v56, c57, rfl, h⟩ := h
  replace h := asI_inv h; obtain ⟨z58, rfl, h⟩ := h
  replace h := popN_inv h; obtain ⟨rfl, h⟩ := h
  replace h := popN_inv h; obtain ⟨rfl, h⟩ := h
  exact (vm_good_j25_eq3 k K t31 (⟨z11, z14, z17, z20, (⟨z23, z26, z29⟩ : S29), z32⟩ : S43) (⟨z37, z40, z43, z46, (⟨z49, z52, z55⟩ : S29), z58⟩ : S43)).trans h
theorem vm_good_cok {ρ : Type} (k : Nat) : COK (vm_good_cfg (ρ := ρ) k) (vm_good_G k) vm_good_code :=
  cok_of (tl := []) (tj := [(23, vm_good_j23_s k), (25, vm_good_j25_s k), (4, vm_good_j4_s k), (3, vm_good_j3_s k)]) (tb := []) rfl rfl rfl (nil_all (by kernel_rfl)) (all_nth 4 (by kernel_rfl) ⟨join_case (by kernel_rfl) rfl (vm_good_j25_ok3 k), join_case (by kernel_rfl) rfl (vm_good_j23_ok2 k), join_case (by kernel_rfl) rfl (vm_good_j4_ok1 k), join_case (by kernel_rfl) rfl (vm_good_j3_ok0 k), trivial⟩) (fun p hp => by cases hp)
noncomputable def vm_good_enc (r : Bool) : AV UU := .pv (.bool r)
noncomputable def vm_good_dec (v : AV UU) (_ : List (List (AV UU))) : Option Bool :=
asB v fun r0 =>
some r0
theorem vm_good_dec_enc (v : AV UU) (b : List (List (AV UU))) (r : Bool) (h : vm_good_dec v b = some r) : v = vm_good_enc r := by
  unfold vm_good_dec at h
  replace h := asB_inv h; obtain ⟨r0, rfl, h⟩ := h
  cases h
  rfl
theorem vm_good_eq (k : Nat) (c0 : S43) (all1 : Int) (n2 : Int) : bodyK UX (vm_good_cfg k) (vm_good_G k) Tryd.f27 [.pv (.typ (.s43 c0)), .pv (.int .i64 all1), .pv (.int .i64 n2)] [] vm_good_dec = vm_good k c0 all1 n2 := by kernel_rfl
theorem vm_good_con (k : Nat) (c0 : S43) (all1 : Int) (n2 : Int) (r : Bool) (h : vm_good k c0 all1 n2 = some r) : Con (X := UX) Tryd.prog 27 [.pv (.typ (.s43 c0)), .pv (.int .i64 all1), .pv (.int .i64 n2)] [] (vm_good_enc r) [] :=
  con_of_body xok tok Tryd.func27 vm_good_body (vm_good_gok k) rfl (vm_good_cok k) (of_decide_eq_true (by kernel_rfl)) vm_good_dec_enc ((vm_good_eq k c0 all1 n2).trans h)
noncomputable def vm_good_an {ρ : Type} (k : Nat) : An UX ρ := fun args bx K =>
popA args fun v1 a2 =>
as_s43 v1 fun c0 =>
popA a2 fun v3 a4 =>
asI .i64 v3 fun all1 =>
popA a4 fun v5 a6 =>
asI .i64 v5 fun n2 =>
popN a6 <|
popN bx <|
(vm_good k c0 all1 n2).bind fun r => K (vm_good_enc r) []
theorem vm_good_ok {ρ : Type} (k : Nat) : AnsOK Tryd.prog 27 (vm_good_an (ρ := ρ) k) := by
  intro args bx K r h
  unfold vm_good_an at h
  replace h := popA_inv h; obtain ⟨v1, a2, rfl, h⟩ := h
  replace h := as_s43_inv h; obtain ⟨c0, rfl, h⟩ := h
  replace h := popA_inv h; obtain ⟨v3, a4, rfl, h⟩ := h
  replace h := asI_inv h; obtain ⟨all1, rfl, h⟩ := h
  replace h := popA_inv h; obtain ⟨v5, a6, rfl, h⟩ := h
  replace h := asI_inv h; obtain ⟨n2, rfl, h⟩ := h
  replace h := popN_inv h; obtain ⟨rfl, h⟩ := h
  replace h := popN_inv h; obtain ⟨rfl, h⟩ := h
  replace h := bind_inv h
  obtain ⟨x, hx, h⟩ := h
  exact ⟨there_of Tryd.func27 (by kernel_rfl) vm_good_body, _, _, h, vm_good_con k c0 all1 n2 x hx⟩

/-! cadastre/vm.Check$1 -/
noncomputable def vm_Check_1_r1_r2_code : Code := match Tryd.f26.body with | some c => c | none => .skip
theorem vm_Check_1_r1_r2_body : Tryd.f26.body = some vm_Check_1_r1_r2_code := by kernel_rfl
noncomputable def vm_Check_1_r1_r2_G {ρ : Type} (k : Nat) : Ans UX ρ := gk 27 (vm_good_an k) (gnil)
theorem vm_Check_1_r1_r2_gok {ρ : Type} (k : Nat) : GOK Tryd.prog (vm_Check_1_r1_r2_G (ρ := ρ) k) := gok_cons (vm_good_ok k) (gok_nil)
noncomputable def vm_Check_1_r1_r2_cfg {ρ : Type} (k : Nat) : Cfg UX ρ where
  live i := (assoc [(0, [0, 1, 2]), (1, [1, 2, 3])] i).getD []
  boxes i := (assoc [(0, []), (1, [3])] i).getD []
  tk i := (assoc [] i).getD []
  n := 11
  labelR l := (assoc [] l).getD 0
  loops := assoc []
  labels := assoc []
  joins := assoc []
  xl i e := match e with
    | .nxt => assoc [] i
    | .ret => assoc [] i
    | .exit j => (assoc [] i).bind fun l => assoc l j
    | .goto j => (assoc [] i).bind fun l => assoc l j
noncomputable def vm_Check_1_r1_r2_L : List Code := selI [] (loopsOf vm_Check_1_r1_r2_code)
noncomputable def vm_Check_1_r1_r2_J : List Code := selI [] (joinsOf vm_Check_1_r1_r2_code)
noncomputable def vm_Check_1_r1_r2_S : List Code := scopesOf vm_Check_1_r1_r2_code
theorem vm_Check_1_r1_r2_cok {ρ : Type} (k : Nat) : COK (vm_Check_1_r1_r2_cfg (ρ := ρ) k) (vm_Check_1_r1_r2_G k) vm_Check_1_r1_r2_code :=
  cok_of (tl := []) (tj := []) (tb := []) rfl rfl rfl (nil_all (by kernel_rfl)) (nil_all (by kernel_rfl)) (fun p hp => by cases hp)
noncomputable def vm_Check_1_r1_r2_enc (r : Bool) : AV UU := .pv (.bool r)
noncomputable def vm_Check_1_r1_r2_dec (v : AV UU) (_ : List (List (AV UU))) : Option Bool :=
asB v fun r0 =>
some r0
theorem vm_Check_1_r1_r2_dec_enc (v : AV UU) (b : List (List (AV UU))) (r : Bool) (h : vm_Check_1_r1_r2_dec v b = some r) : v = vm_Check_1_r1_r2_enc r := by
  unfold vm_Check_1_r1_r2_dec at h
  replace h := asB_inv h; obtain ⟨r0, rfl, h⟩ := h
  cases h
  rfl
theorem vm_Check_1_r1_r2_eq (k : Nat) (c0 : S43) (t1 : List S43) (t2 : Int) : bodyK UX (vm_Check_1_r1_r2_cfg k) (vm_Check_1_r1_r2_G k) Tryd.f26 [.pv (.typ (.s43 c0)), .ref (.typ (.l43 t1)), .ref (.int .i64 t2)] [] vm_Check_1_r1_r2_dec = vm_Check_1_r1_r2 k c0 t1 t2 := by kernel_rfl
theorem vm_Check_1_r1_r2_con (k : Nat) (c0 : S43) (t1 : List S43) (t2 : Int) (r : Bool) (h : vm_Check_1_r1_r2 k c0 t1 t2 = some r) : Con (X := UX) Tryd.prog 26 [.pv (.typ (.s43 c0)), .ref (.typ (.l43 t1)), .ref (.int .i64 t2)] [] (vm_Check_1_r1_r2_enc r) [] :=
  con_of_body xok tok Tryd.func26 vm_Check_1_r1_r2_body (vm_Check_1_r1_r2_gok k) rfl (vm_Check_1_r1_r2_cok k) (of_decide_eq_true (by kernel_rfl)) vm_Check_1_r1_r2_dec_enc ((vm_Check_1_r1_r2_eq k c0 t1 t2).trans h)
noncomputable def vm_Check_1_r1_r2_an {ρ : Type} (k : Nat) : An UX ρ := fun args bx K =>
popA args fun v1 a2 =>
as_s43 v1 fun c0 =>
popA a2 fun v3 a4 =>
asR v3 fun p5 =>
as_l43 (.pv p5) fun t1 =>
popA a4 fun v6 a7 =>
asR v6 fun p8 =>
asI .i64 (.pv p8) fun t2 =>
popN a7 <|
popN bx <|
(vm_Check_1_r1_r2 k c0 t1 t2).bind fun r => K (vm_Check_1_r1_r2_enc r) []
theorem vm_Check_1_r1_r2_ok {ρ : Type} (k : Nat) : AnsOK Tryd.prog 26 (vm_Check_1_r1_r2_an (ρ := ρ) k) := by
  intro args bx K r h
  unfold vm_Check_1_r1_r2_an at h
  replace h := popA_inv h; obtain ⟨v1, a2, rfl, h⟩ := h
  replace h := as_s43_inv h; obtain ⟨c0, rfl, h⟩ := h
  replace h := popA_inv h; obtain ⟨v3, a4, rfl, h⟩ := h
  replace h := asR_inv h; obtain ⟨p5, rfl, h⟩ := h
  replace h := as_l43_inv h; obtain ⟨t1, e, h⟩ := h; cases e
  replace h := popA_inv h; obtain ⟨v6, a7, rfl, h⟩ := h
  replace h := asR_inv h; obtain ⟨p8, rfl, h⟩ := h
  replace h := asI_inv h; obtain ⟨t2, e, h⟩ := h; cases e
  replace h := popN_inv h; obtain ⟨rfl, h⟩ := h
  replace h := popN_inv h; obtain ⟨rfl, h⟩ := h
  replace h := bind_inv h
  obtain ⟨x, hx, h⟩ := h
  exact ⟨there_of Tryd.func26 (by kernel_rfl) vm_Check_1_r1_r2_body, _, _, h, vm_Check_1_r1_r2_con k c0 t1 t2 x hx⟩

/-! slices.IndexFunc[[]cadastre/api.Code,cadastre/api.Code] -/
noncomputable def api_Code__45_f26_code : Code := match Tryd.f45.body with | some c => c | none => .skip
theorem api_Code__45_f26_body : Tryd.f45.body = some api_Code__45_f26_code := by kernel_rfl
noncomputable def api_Code__45_f26_G {ρ : Type} (k : Nat) : Ans UX ρ := gk 26 (vm_Check_1_r1_r2_an k) (gnil)
theorem api_Code__45_f26_gok {ρ : Type} (k : Nat) : GOK Tryd.prog (api_Code__45_f26_G (ρ := ρ) k) := gok_cons (vm_Check_1_r1_r2_ok k) (gok_nil)
noncomputable def api_Code__45_f26_l2_s {ρ : Type} (k : Nat) : Run UX ρ := fun s K =>
popS 0 s.env fun v1 e2 =>
as_l43 v1 fun s0 =>
popS 1 e2 fun v3 e4 =>
asF 26 v3 fun fa5 fb6 =>
popN fa5 <|
popA fb6 fun c7 fb8 =>
asSR c7 fun p9 =>
as_l43 (.pv p9) fun f1_c0 =>
popA fb8 fun c10 fb11 =>
asSR c10 fun p12 =>
asI .i64 (.pv p12) fun f1_c1 =>
popN fb11 <|
popS 7 e4 fun v13 e14 =>
asI .i64 v13 fun t7 =>
popS 8 e14 fun v15 e16 =>
asI .i64 v15 fun t8 =>
popN e16 <|
popN s.hp <|
api_Code__45_f26_l2 k (fun t4 => K .ret ⟨[(4, .pv (.int .i64 t4))], []⟩) (K (.exit 0) ⟨[], []⟩) k s0 f1_c0 f1_c1 t7 t8
noncomputable def api_Code__45_f26_cfg {ρ : Type} (k : Nat) : Cfg UX ρ where
  live i := (assoc [(0, [0, 1]), (1, [0, 1]), (2, [0, 1, 7, 8]), (3, [0, 1, 7, 8]), (4, [0, 1, 5, 7, 8]), (5, [5]), (6, [0, 1, 7, 8]), (7, [])] i).getD []
  boxes i := (assoc [(0, []), (1, []), (2, []), (3, []), (4, []), (5, []), (6, []), (7, [])] i).getD []
  tk i := (assoc [] i).getD []
  n := 19
  labelR l := (assoc [] l).getD 0
  loops := assoc [(2, api_Code__45_f26_l2_s k)]
  labels := assoc []
  joins := assoc []
  xl i e := match e with
    | .nxt => assoc [] i
    | .ret => assoc [(2, ([4], []))] i
    | .exit j => (assoc [(2, [(0, ([], []))])] i).bind fun l => assoc l j
    | .goto j => (assoc [] i).bind fun l => assoc l j
noncomputable def api_Code__45_f26_L : List Code := selI [2] (loopsOf api_Code__45_f26_code)
noncomputable def api_Code__45_f26_J : List Code := selI [] (joinsOf api_Code__45_f26_code)
noncomputable def api_Code__45_f26_S : List Code := scopesOf api_Code__45_f26_code
theorem api_Code__45_f26_l2_eq0 {ρ : Type} (k : Nat) (K : Ex → St UU → Option ρ) : ∀ (n : Nat) (v : (List S43) × (List S43) × Int × Int × Int), iterK UX (fun s => s.at (api_Code__45_f26_cfg (ρ := ρ) k).live (api_Code__45_f26_cfg (ρ := ρ) k).boxes (some 2)) (exec UX (api_Code__45_f26_cfg k) (api_Code__45_f26_G k) (api_Code__45_f26_L.getD 0 .skip)) n ⟨[(0, .pv (.typ (.l43 v.1))), (1, .fn 26 [] [.ref (.typ (.l43 v.2.1)), .ref (.int .i64 v.2.2.1)]), (7, .pv (.int .i64 v.2.2.2.1)), (8, .pv (.int .i64 v.2.2.2.2))], []⟩ (nrmK UX (api_Code__45_f26_cfg k) 2 K) = api_Code__45_f26_l2 k (fun t4 => K .ret ⟨[(4, .pv (.int .i64 t4))], []⟩) (K (.exit 0) ⟨[], []⟩) n v.1 v.2.1 v.2.2.1 v.2.2.2.1 v.2.2.2.2 :=
  iter_rec (X := UX) (fun v => ⟨[(0, .pv (.typ (.l43 v.1))), (1, .fn 26 [] [.ref (.typ (.l43 v.2.1)), .ref (.int .i64 v.2.2.1)]), (7, .pv (.int .i64 v.2.2.2.1)), (8, .pv (.int .i64 v.2.2.2.2))], []⟩) (fun rec v => api_Code__45_f26_l2_b k (fun t4 => K .ret ⟨[(4, .pv (.int .i64 t4))], []⟩) (K (.exit 0) ⟨[], []⟩) (fun s0 f1_c0 f1_c1 t7 t8 => rec (s0, f1_c0, f1_c1, t7, t8)) v.1 v.2.1 v.2.2.1 v.2.2.2.1 v.2.2.2.2) (fun n v => api_Code__45_f26_l2 k (fun t4 => K .ret ⟨[(4, .pv (.int .i64 t4))], []⟩) (K (.exit 0) ⟨[], []⟩) n v.1 v.2.1 v.2.2.1 v.2.2.2.1 v.2.2.2.2) (fun n v => by kernel_rfl) (fun _ => rfl) (fun _ _ => rfl)
theorem api_Code__45_f26_l2_ok0 {ρ : Type} (k : Nat) : IterOK UX (api_Code__45_f26_cfg (ρ := ρ) k) (api_Code__45_f26_G k) (api_Code__45_f26_L.getD 0 .skip) 2 (api_Code__45_f26_l2_s k) := by
  intro s K r h
  obtain ⟨env, hp⟩ := s
  unfold api_Code__45_f26_l2_s at h
  replace h := popS_inv h; obtain ⟨v1, e2, rfl, h⟩ := h
  replace h := as_l43_inv h; obtain ⟨s0, rfl, h⟩ := h
  replace h := popS_inv h; obtain ⟨v3, e4, rfl, h⟩ := h
  replace h := asF_inv h; obtain ⟨fa5, fb6, rfl, h⟩ := h
  replace h := popN_inv h; obtain ⟨rfl, h⟩ := h
  replace h := popA_inv h; obtain ⟨c7, fb8, rfl, h⟩ := h
  replace h := asSR_inv h; obtain ⟨p9, rfl, h⟩ := h
  replace h := as_l43_inv h; obtain ⟨f1_c0, e, h⟩ := h; cases e
  replace h := popA_inv h; obtain ⟨c10, fb11, rfl, h⟩ := h
  replace h := asSR_inv h; obtain ⟨p12, rfl, h⟩ := h
  replace h := asI_inv h; obtain ⟨f1_c1, e, h⟩ := h; cases e
  replace h := popN_inv h; obtain ⟨rfl, h⟩ := h
  replace h := popS_inv h; obtain ⟨v13, e14, rfl, h⟩ := h
  replace h := asI_inv h; obtain ⟨t7, rfl, h⟩ := h
  replace h := popS_inv h; obtain ⟨v15, e16, rfl, h⟩ := h
  replace h := asI_inv h; obtain ⟨t8, rfl, h⟩ := h
  replace h := popN_inv h; obtain ⟨rfl, h⟩ := h
  replace h := popN_inv h; obtain ⟨rfl, h⟩ := h
  exact ⟨k, (api_Code__45_f26_l2_eq0 k K k (s0, f1_c0, f1_c1, t7, t8)).trans h⟩
theorem api_Code__45_f26_cok {ρ : Type} (k : Nat) : COK (api_Code__45_f26_cfg (ρ := ρ) k) (api_Code__45_f26_G k) api_Code__45_f26_code :=
  cok_of (tl := [(2, api_Code__45_f26_l2_s k)]) (tj := []) (tb := []) rfl rfl rfl (all_nth 1 (by kernel_rfl) ⟨iter_case (by kernel_rfl) rfl (api_Code__45_f26_l2_ok0 k), trivial⟩) (nil_all (by kernel_rfl)) (fun p hp => by cases hp)
noncomputable def api_Code__45_f26_enc (r : Int) : AV UU := .pv (.int .i64 r)
noncomputable def api_Code__45_f26_dec (v : AV UU) (_ : List (List (AV UU))) : Option Int :=
asI .i64 v fun r0 =>
some r0
theorem api_Code__45_f26_dec_enc (v : AV UU) (b : List (List (AV UU))) (r : Int) (h : api_Code__45_f26_dec v b = some r) : v = api_Code__45_f26_enc r := by
  unfold api_Code__45_f26_dec at h
  replace h := asI_inv h; obtain ⟨r0, rfl, h⟩ := h
  cases h
  rfl
theorem api_Code__45_f26_eq (k : Nat) (s0 : List S43) (f1_0 : List S43) (f1_1 : Int) : bodyK UX (api_Code__45_f26_cfg k) (api_Code__45_f26_G k) Tryd.f45 [.pv (.typ (.l43 s0)), .fn 26 [] [.ref (.typ (.l43 f1_0)), .ref (.int .i64 f1_1)]] [] api_Code__45_f26_dec = api_Code__45_f26 k s0 f1_0 f1_1 := by kernel_rfl
theorem api_Code__45_f26_con (k : Nat) (s0 : List S43) (f1_0 : List S43) (f1_1 : Int) (r : Int) (h : api_Code__45_f26 k s0 f1_0 f1_1 = some r) : Con (X := UX) Tryd.prog 45 [.pv (.typ (.l43 s0)), .fn 26 [] [.ref (.typ (.l43 f1_0)), .ref (.int .i64 f1_1)]] [] (api_Code__45_f26_enc r) [] :=
  con_of_body xok tok Tryd.func45 api_Code__45_f26_body (api_Code__45_f26_gok k) rfl (api_Code__45_f26_cok k) (of_decide_eq_true (by kernel_rfl)) api_Code__45_f26_dec_enc ((api_Code__45_f26_eq k s0 f1_0 f1_1).trans h)
noncomputable def api_Code__45_f26_an {ρ : Type} (k : Nat) : An UX ρ := fun args bx K =>
popA args fun v1 a2 =>
as_l43 v1 fun s0 =>
popA a2 fun v3 a4 =>
asF 26 v3 fun fa5 fb6 =>
popN fa5 <|
popA fb6 fun c7 fb8 =>
asSR c7 fun p9 =>
as_l43 (.pv p9) fun f1_0 =>
popA fb8 fun c10 fb11 =>
asSR c10 fun p12 =>
asI .i64 (.pv p12) fun f1_1 =>
popN fb11 <|
popN a4 <|
popN bx <|
(api_Code__45_f26 k s0 f1_0 f1_1).bind fun r => K (api_Code__45_f26_enc r) []
theorem api_Code__45_f26_ok {ρ : Type} (k : Nat) : AnsOK Tryd.prog 45 (api_Code__45_f26_an (ρ := ρ) k) := by
  intro args bx K r h
  unfold api_Code__45_f26_an at h
  replace h := popA_inv h; obtain ⟨v1, a2, rfl, h⟩ := h
  replace h := as_l43_inv h; obtain ⟨s0, rfl, h⟩ := h
  replace h := popA_inv h; obtain ⟨v3, a4, rfl, h⟩ := h
  replace h := asF_inv h; obtain ⟨fa5, fb6, rfl, h⟩ := h
  replace h := popN_inv h; obtain ⟨rfl, h⟩ := h
  replace h := popA_inv h; obtain ⟨c7, fb8, rfl, h⟩ := h
  replace h := asSR_inv h; obtain ⟨p9, rfl, h⟩ := h
  replace h := as_l43_inv h; obtain ⟨f1_0, e, h⟩ := h; cases e
  replace h := popA_inv h; obtain ⟨c10, fb11, rfl, h⟩ := h
  replace h := asSR_inv h; obtain ⟨p12, rfl, h⟩ := h
  replace h := asI_inv h; obtain ⟨f1_1, e, h⟩ := h; cases e
  replace h := popN_inv h; obtain ⟨rfl, h⟩ := h
  replace h := popN_inv h; obtain ⟨rfl, h⟩ := h
  replace h := popN_inv h; obtain ⟨rfl, h⟩ := h
  replace h := bind_inv h
  obtain ⟨x, hx, h⟩ := h
  exact ⟨there_of Tryd.func45 (by kernel_rfl) api_Code__45_f26_body, _, _, h, api_Code__45_f26_con k s0 f1_0 f1_1 x hx⟩

/-! slices.ContainsFunc[[]cadastre/api.Code,cadastre/api.Code] -/
noncomputable def api_Code__f26_code : Code := match Tryd.f25.body with | some c => c | none => .skip
theorem api_Code__f26_body : Tryd.f25.body = some api_Code__f26_code := by kernel_rfl
noncomputable def api_Code__f26_G {ρ : Type} (k : Nat) : Ans UX ρ := gk 45 (api_Code__45_f26_an k) (gnil)
theorem api_Code__f26_gok {ρ : Type} (k : Nat) : GOK Tryd.prog (api_Code__f26_G (ρ := ρ) k) := gok_cons (api_Code__45_f26_ok k) (gok_nil)
noncomputable def api_Code__f26_cfg {ρ : Type} (k : Nat) : Cfg UX ρ where
  live i := (assoc [(0, [0, 1]), (1, [0, 1])] i).getD []
  boxes i := (assoc [(0, []), (1, [])] i).getD []
  tk i := (assoc [] i).getD []
  n := 9
  labelR l := (assoc [] l).getD 0
  loops := assoc []
  labels := assoc []
  joins := assoc []
  xl i e := match e with
    | .nxt => assoc [] i
    | .ret => assoc [] i
    | .exit j => (assoc [] i).bind fun l => assoc l j
    | .goto j => (assoc [] i).bind fun l => assoc l j
noncomputable def api_Code__f26_L : List Code := selI [] (loopsOf api_Code__f26_code)
noncomputable def api_Code__f26_J : List Code := selI [] (joinsOf api_Code__f26_code)
noncomputable def api_Code__f26_S : List Code := scopesOf api_Code__f26_code
theorem api_Code__f26_cok {ρ : Type} (k : Nat) : COK (api_Code__f26_cfg (ρ := ρ) k) (api_Code__f26_G k) api_Code__f26_code :=
  cok_of (tl := []) (tj := []) (tb := []) rfl rfl rfl (nil_all (by kernel_rfl)) (nil_all (by kernel_rfl)) (fun p hp => by cases hp)
noncomputable def api_Code__f26_enc (r : Bool) : AV UU := .pv (.bool r)
noncomputable def api_Code__f26_dec (v : AV UU) (_ : List (List (AV UU))) : Option Bool :=
asB v fun r0 =>
some r0
theorem api_Code__f26_dec_enc (v : AV UU) (b : List (List (AV UU))) (r : Bool) (h : api_Code__f26_dec v b = some r) : v = api_Code__f26_enc r := by
  unfold api_Code__f26_dec at h
  replace h := asB_inv h; obtain ⟨r0, rfl, h⟩ := h
  cases h
  rfl
theorem api_Code__f26_eq (k : Nat) (s0 : List S43) (f1_0 : List S43) (f1_1 : Int) : bodyK UX (api_Code__f26_cfg k) (api_Code__f26_G k) Tryd.f25 [.pv (.typ (.l43 s0)), .fn 26 [] [.ref (.typ (.l43 f1_0)), .ref (.int .i64 f1_1)]] [] api_Code__f26_dec = api_Code__f26 k s0 f1_0 f1_1 := by kernel_rfl
theorem api_Code__f26_con (k : Nat) (s0 : List S43) (f1_0 : List S43) (f1_1 : Int) (r : Bool) (h : api_Code__f26 k s0 f1_0 f1_1 = some r) : Con (X := UX) Tryd.prog 25 [.pv (.typ (.l43 s0)), .fn 26 [] [.ref (.typ (.l43 f1_0)), .ref (.int .i64 f1_1)]] [] (api_Code__f26_enc r) [] :=
  con_of_body xok tok Tryd.func25 api_Code__f26_body (api_Code__f26_gok k) rfl (api_Code__f26_cok k) (of_decide_eq_true (by kernel_rfl)) api_Code__f26_dec_enc ((api_Code__f26_eq k s0 f1_0 f1_1).trans h)
noncomputable def api_Code__f26_an {ρ : Type} (k : Nat) : An UX ρ := fun args bx K =>
popA args fun v1 a2 =>
as_l43 v1 fun s0 =>
popA a2 fun v3 a4 =>
asF 26 v3 fun fa5 fb6 =>
popN fa5 <|
popA fb6 fun c7 fb8 =>
asSR c7 fun p9 =>
as_l43 (.pv p9) fun f1_0 =>
popA fb8 fun c10 fb11 =>
asSR c10 fun p12 =>
asI .i64 (.pv p12) fun f1_1 =>
popN fb11 <|
popN a4 <|
popN bx <|
(api_Code__f26 k s0 f1_0 f1_1).bind fun r => K (api_Code__f26_enc r) []
theorem api_Code__f26_ok {ρ : Type} (k : Nat) : AnsOK Tryd.prog 25 (api_Code__f26_an (ρ := ρ) k) := by
  intro args bx K r h
  unfold api_Code__f26_an at h
  replace h := popA_inv h; obtain ⟨v1, a2, rfl, h⟩ := h
  replace h := as_l43_inv h; obtain ⟨s0, rfl, h⟩ := h
  replace h := popA_inv h; obtain ⟨v3, a4, rfl, h⟩ := h
  replace h := asF_inv h; obtain ⟨fa5, fb6, rfl, h⟩ := h
  replace h := popN_inv h; obtain ⟨rfl, h⟩ := h
  replace h := popA_inv h; obtain ⟨c7, fb8, rfl, h⟩ := h
  replace h := asSR_inv h; obtain ⟨p9, rfl, h⟩ := h
  replace h := as_l43_inv h; obtain ⟨f1_0, e, h⟩ := h; cases e
  replace h := popA_inv h; obtain ⟨c10, fb11, rfl, h⟩ := h
  replace h := asSR_inv h; obtain ⟨p12, rfl, h⟩ := h
  replace h := asI_inv h; obtain ⟨f1_1, e, h⟩ := h; cases e
  replace h := popN_inv h; obtain ⟨rfl, h⟩ := h
  replace h := popN_inv h; obtain ⟨rfl, h⟩ := h
  replace h := popN_inv h; obtain ⟨rfl, h⟩ := h
  replace h := bind_inv h
  obtain ⟨x, hx, h⟩ := h
  exact ⟨there_of Tryd.func25 (by kernel_rfl) api_Code__f26_body, _, _, h, api_Code__f26_con k s0 f1_0 f1_1 x hx⟩

/-! cadastre/vm.Check -/
noncomputable def vm_Check_code : Code := match Tryd.f12.body with | some c => c | none => .skip
theorem vm_Check_body : Tryd.f12.body = some vm_Check_code := by kernel_rfl
noncomputable def vm_Check_G {ρ : Type} (k : Nat) : Ans UX ρ := gk 25 (api_Code__f26_an k) (gnil)
theorem vm_Check_gok {ρ : Type} (k : Nat) : GOK Tryd.prog (vm_Check_G (ρ := ρ) k) := gok_cons (api_Code__f26_ok k) (gok_nil)
noncomputable def vm_Check_cfg {ρ : Type} (k : Nat) : Cfg UX ρ where
  live i := (assoc [(0, [0, 1]), (1, [2, 3]), (2, []), (3, [])] i).getD []
  boxes i := (assoc [(0, []), (1, [2, 3]), (2, []), (3, [])] i).getD []
  tk i := (assoc [(1000002, [10])] i).getD []
  n := 13
  labelR l := (assoc [] l).getD 0
  loops := assoc []
  labels := assoc []
  joins := assoc []
  xl i e := match e with
    | .nxt => assoc [] i
    | .ret => assoc [] i
    | .exit j => (assoc [] i).bind fun l => assoc l j
    | .goto j => (assoc [] i).bind fun l => assoc l j
noncomputable def vm_Check_L : List Code := selI [] (loopsOf vm_Check_code)
noncomputable def vm_Check_J : List Code := selI [] (joinsOf vm_Check_code)
noncomputable def vm_Check_S : List Code := scopesOf vm_Check_code
theorem vm_Check_cok {ρ : Type} (k : Nat) : COK (vm_Check_cfg (ρ := ρ) k) (vm_Check_G k) vm_Check_code :=
  cok_of (tl := []) (tj := []) (tb := []) rfl rfl rfl (nil_all (by kernel_rfl)) (nil_all (by kernel_rfl)) (fun p hp => by cases hp)
noncomputable def vm_Check_enc (r : Int) : AV UU := .pv (.int .i64 r)
noncomputable def vm_Check_dec (v : AV UU) (_ : List (List (AV UU))) : Option Int :=
asI .i64 v fun r0 =>
some r0
theorem vm_Check_dec_enc (v : AV UU) (b : List (List (AV UU))) (r : Int) (h : vm_Check_dec v b = some r) : v = vm_Check_enc r := by
  unfold vm_Check_dec at h
  replace h := asI_inv h; obtain ⟨r0, rfl, h⟩ := h
  cases h
  rfl
theorem vm_Check_eq (k : Nat) (l0 : List S43) (n1 : Int) : bodyK UX (vm_Check_cfg k) (vm_Check_G k) Tryd.f12 [.pv (.typ (.l43 l0)), .pv (.int .i64 n1)] [] vm_Check_dec = vm_Check k l0 n1 := by kernel_rfl
theorem vm_Check_con (k : Nat) (l0 : List S43) (n1 : Int) (r : Int) (h : vm_Check k l0 n1 = some r) : Con (X := UX) Tryd.prog 12 [.pv (.typ (.l43 l0)), .pv (.int .i64 n1)] [] (vm_Check_enc r) [] :=
  con_of_body xok tok Tryd.func12 vm_Check_body (vm_Check_gok k) rfl (vm_Check_cok k) (of_decide_eq_true (by kernel_rfl)) vm_Check_dec_enc ((vm_Check_eq k l0 n1).trans h)
noncomputable def vm_Check_an {ρ : Type} (k : Nat) : An UX ρ := fun args bx K =>
popA args fun v1 a2 =>
as_l43 v1 fun l0 =>
popA a2 fun v3 a4 =>
asI .i64 v3 fun n1 =>
popN a4 <|
popN bx <|
(vm_Check k l0 n1).bind fun r => K (vm_Check_enc r) []
theorem vm_Check_ok {ρ : Type} (k : Nat) : AnsOK Tryd.prog 12 (vm_Check_an (ρ := ρ) k) := by
  intro args bx K r h
  unfold vm_Check_an at h
  replace h := popA_inv h; obtain ⟨v1, a2, rfl, h⟩ := h
  replace h := as_l43_inv h; obtain ⟨l0, rfl, h⟩ := h
  replace h := popA_inv h; obtain ⟨v3, a4, rfl, h⟩ := h
  replace h := asI_inv h; obtain ⟨n1, rfl, h⟩ := h
  replace h := popN_inv h; obtain ⟨rfl, h⟩ := h
  replace h := popN_inv h; obtain ⟨rfl, h⟩ := h
  replace h := bind_inv h
  obtain ⟨x, hx, h⟩ := h
  exact ⟨there_of Tryd.func12 (by kernel_rfl) vm_Check_body, _, _, h, vm_Check_con k l0 n1 x hx⟩

/-! cadastre/value.All -/
noncomputable def value_All_code : Code := match Tryd.f22.body with | some c => c | none => .skip
theorem value_All_body : Tryd.f22.body = some value_All_code := by kernel_rfl
noncomputable def value_All_G {ρ : Type} (k : Nat) : Ans UX ρ := gk 40 (value_Good_an k) (gnil)
theorem value_All_gok {ρ : Type} (k : Nat) : GOK Tryd.prog (value_All_G (ρ := ρ) k) := gok_cons (value_Good_ok k) (gok_nil)
noncomputable def value_All_j2_s {ρ : Type} (k : Nat) : Run UX ρ := fun s K =>
popS 0 s.env fun v1 e2 =>
as_l29 v1 fun l0 =>
popS 3 e2 fun v3 e4 =>
asI .i64 v3 fun i3 =>
popN e4 <|
popN s.hp <|
value_All_j2 k (fun t2 => K .ret ⟨[(2, .pv (.bool t2))], []⟩) (fun l0 i3 => K (.goto 0) ⟨[(0, .pv (.typ (.l29 l0))), (3, .pv (.int .i64 i3))], []⟩) l0 i3
noncomputable def value_All_g0_s {ρ : Type} (k : Nat) : Run UX ρ := fun s K =>
popS 0 s.env fun v1 e2 =>
as_l29 v1 fun l0 =>
popS 3 e2 fun v3 e4 =>
asI .i64 v3 fun i3 =>
popN e4 <|
popN s.hp <|
value_All_g0 k (fun t2 => K .ret ⟨[(2, .pv (.bool t2))], []⟩) k l0 i3
noncomputable def value_All_cfg {ρ : Type} (k : Nat) : Cfg UX ρ where
  live i := (assoc [(0, [0]), (1, [0]), (2, [0, 3]), (3, []), (4, [0, 3]), (5, [0, 3]), (6, [])] i).getD []
  boxes i := (assoc [(0, []), (1, []), (2, []), (3, []), (4, []), (5, []), (6, [])] i).getD []
  tk i := (assoc [] i).getD []
  n := 15
  labelR l := (assoc [(0, 2)] l).getD 0
  loops := assoc []
  labels := assoc [(0, value_All_g0_s k)]
  joins := assoc [(2, value_All_j2_s k)]
  xl i e := match e with
    | .nxt => assoc [] i
    | .ret => assoc [(2, ([2], [])), (2, ([2], []))] i
    | .exit j => (assoc [] i).bind fun l => assoc l j
    | .goto j => (assoc [(2, [(0, ([0, 3], []))])] i).bind fun l => assoc l j
noncomputable def value_All_L : List Code := selI [] (loopsOf value_All_code)
noncomputable def value_All_J : List Code := selI [2] (joinsOf value_All_code)
noncomputable def value_All_S : List Code := scopesOf value_All_code
theorem value_All_j2_eq0 {ρ : Type} (k : Nat) (K : Ex → St UU → Option ρ) (l0 : List S29) (i3 : Int) : exec UX (value_All_cfg k) (value_All_G k) (value_All_J.getD 0 .skip) ⟨[(0, .pv (.typ (.l29 l0))), (3, .pv (.int .i64 i3))], []⟩ (nrmK UX (value_All_cfg k) 2 K) = value_All_j2 k (fun t2 => K .ret ⟨[(2, .pv (.bool t2))], []⟩) (fun l0 i3 => K (.goto 0) ⟨[(0, .pv (.typ (.l29 l0))), (3, .pv (.int .i64 i3))], []⟩) l0 i3 := by kernel_rfl
theorem value_All_j2_ok0 {ρ : Type} (k : Nat) : JoinOK UX (value_All_cfg (ρ := ρ) k) (value_All_G k) (value_All_J.getD 0 .skip) 2 (value_All_j2_s k) := by
  intro s K r h
  obtain ⟨env, hp⟩ := s
  unfold value_All_j2_s at h
  replace h := popS_inv h; obtain ⟨v1, e2, rfl, h⟩ := h
  replace h := as_l29_inv h; obtain ⟨l0, rfl, h⟩ := h
  replace h := popS_inv h; obtain ⟨v3, e4, rfl, h⟩ := h
  replace h := asI_inv h; obtain ⟨i3, rfl, h⟩ := h
  replace h := popN_inv h; obtain ⟨rfl, h⟩ := h
  replace h := popN_inv h; obtain ⟨rfl, h⟩ := h
  exact (value_All_j2_eq0 k K l0 i3).trans h
noncomputable def value_All_g0_f0 {ρ : Type} (k : Nat) : Run UX ρ := (suff UX (value_All_cfg k) (value_All_G k) (value_All_S.getD 0 .skip) 0).getD fun _ _ => none
theorem value_All_g0_eq0 {ρ : Type} (k : Nat) (K : Ex → St UU → Option ρ) : ∀ (n : Nat) (v : (List S29) × Int), scopeN UX (fun l s => s.at (value_All_cfg (ρ := ρ) k).live (value_All_cfg (ρ := ρ) k).boxes (some ((value_All_cfg (ρ := ρ) k).labelR l))) (suff UX (value_All_cfg k) (value_All_G k) (value_All_S.getD 0 .skip)) (fun l => ((value_All_cfg (ρ := ρ) k).labels l).isSome) n (value_All_g0_f0 k) ⟨[(0, .pv (.typ (.l29 v.1))), (3, .pv (.int .i64 v.2))], []⟩ (nrmK UX (value_All_cfg k) ((value_All_cfg (ρ := ρ) k).labelR 0) K) = value_All_g0 k (fun t2 => K .ret ⟨[(2, .pv (.bool t2))], []⟩) n v.1 v.2 :=
  scope_rec (X := UX) (fun _ => value_All_g0_f0 k) (fun v => ⟨[(0, .pv (.typ (.l29 v.1))), (3, .pv (.int .i64 v.2))], []⟩) (fun rec v => value_All_g0_b k (fun t2 => K .ret ⟨[(2, .pv (.bool t2))], []⟩) (fun l0 i3 => rec (l0, i3)) v.1 v.2) (fun n v => value_All_g0 k (fun t2 => K .ret ⟨[(2, .pv (.bool t2))], []⟩) n v.1 v.2) (fun n v => by kernel_rfl) (fun _ => rfl) (fun _ _ => rfl)
theorem value_All_g0_ok0 {ρ : Type} (k : Nat) : LabOK UX (value_All_cfg (ρ := ρ) k) (value_All_G k) (value_All_S.getD 0 .skip) 0 (value_All_g0_s k) := by
  intro f hf s K r h
  have hf : value_All_g0_f0 k = f := by unfold value_All_g0_f0; rw [hf]; rfl
  subst hf
  obtain ⟨env, hp⟩ := s
  unfold value_All_g0_s at h
  replace h := popS_inv h; obtain ⟨v1, e2, rfl, h⟩ := h
  replace h := as_l29_inv h; obtain ⟨l0, rfl, h⟩ := h
  replace h := popS_inv h; obtain ⟨v3, e4, rfl, h⟩ := h
  replace h := asI_inv h; obtain ⟨i3, rfl, h⟩ := h
  replace h := popN_inv h; obtain ⟨rfl, h⟩ := h
  replace h := popN_inv h; obtain ⟨rfl, h⟩ := h
  exact ⟨k, (value_All_g0_eq0 k K k (l0, i3)).trans h⟩
theorem value_All_cok {ρ : Type} (k : Nat) : COK (value_All_cfg (ρ := ρ) k) (value_All_G k) value_All_code :=
  cok_of (tl := []) (tj := [(2, value_All_j2_s k)]) (tb := [(0, value_All_g0_s k)]) rfl rfl rfl (nil_all (by kernel_rfl)) (all_nth 1 (by kernel_rfl) ⟨join_case (by kernel_rfl) rfl (value_All_j2_ok0 k), trivial⟩) (fun p hp => by
    simp only [List.mem_cons, List.not_mem_nil, or_false] at hp
    subst hp
    · exact all_nth 1 (by kernel_rfl) ⟨value_All_g0_ok0 k, trivial⟩)
noncomputable def value_All_enc (r : Bool) : AV UU := .pv (.bool r)
noncomputable def value_All_dec (v : AV UU) (_ : List (List (AV UU))) : Option Bool :=
asB v fun r0 =>
some r0
theorem value_All_dec_enc (v : AV UU) (b : List (List (AV UU))) (r : Bool) (h : value_All_dec v b = some r) : v = value_All_enc r := by
  unfold value_All_dec at h
  replace h := asB_inv h; obtain ⟨r0, rfl, h⟩ := h
  cases h
  rfl
theorem value_All_eq (k : Nat) (l0 : List S29) : bodyK UX (value_All_cfg k) (value_All_G k) Tryd.f22 [.pv (.typ (.l29 l0))] [] value_All_dec = value_All k l0 := by kernel_rfl
theorem value_All_con (k : Nat) (l0 : List S29) (r : Bool) (h : value_All k l0 = some r) : Con (X := UX) Tryd.prog 22 [.pv (.typ (.l29 l0))] [] (value_All_enc r) [] :=
  con_of_body xok tok Tryd.func22 value_All_body (value_All_gok k) rfl (value_All_cok k) (of_decide_eq_true (by kernel_rfl)) value_All_dec_enc ((value_All_eq k l0).trans h)
noncomputable def value_All_an {ρ : Type} (k : Nat) : An UX ρ := fun args bx K =>
popA args fun v1 a2 =>
as_l29 v1 fun l0 =>
popN a2 <|
popN bx <|
(value_All k l0).bind fun r => K (value_All_enc r) []
theorem value_All_ok {ρ : Type} (k : Nat) : AnsOK Tryd.prog 22 (value_All_an (ρ := ρ) k) := by
  intro args bx K r h
  unfold value_All_an at h
  replace h := popA_inv h; obtain ⟨v1, a2, rfl, h⟩ := h
  replace h := as_l29_inv h; obtain ⟨l0, rfl, h⟩ := h
  replace h := popN_inv h; obtain ⟨rfl, h⟩ := h
  replace h := popN_inv h; obtain ⟨rfl, h⟩ := h
  replace h := bind_inv h
  obtain ⟨x, hx, h⟩ := h
  exact ⟨there_of Tryd.func22 (by kernel_rfl) value_All_body, _, _, h, value_All_con k l0 x hx⟩

/-! cadastre/logic.truth -/
noncomputable def logic_truth_code : Code := match Tryd.f53.body with | some c => c | none => .skip
theorem logic_truth_body : Tryd.f53.body = some logic_truth_code := by kernel_rfl
noncomputable def logic_truth_G {ρ : Type} (k : Nat) : Ans UX ρ := gk 40 (value_Good_an k) (gnil)
theorem logic_truth_gok {ρ : Type} (k : Nat) : GOK Tryd.prog (logic_truth_G (ρ := ρ) k) := gok_cons (value_Good_ok k) (gok_nil)
noncomputable def logic_truth_cfg {ρ : Type} (k : Nat) : Cfg UX ρ where
  live i := (assoc [(0, [0]), (1, [1]), (2, []), (3, [1]), (4, []), (5, [1]), (6, []), (7, [1]), (8, []), (9, [])] i).getD []
  boxes i := (assoc [(0, []), (1, [1]), (2, []), (3, [1]), (4, []), (5, [1]), (6, []), (7, [1]), (8, []), (9, [])] i).getD []
  tk i := (assoc [] i).getD []
  n := 20
  labelR l := (assoc [] l).getD 0
  loops := assoc []
  labels := assoc []
  joins := assoc []
  xl i e := match e with
    | .nxt => assoc [] i
    | .ret => assoc [] i
    | .exit j => (assoc [] i).bind fun l => assoc l j
    | .goto j => (assoc [] i).bind fun l => assoc l j
noncomputable def logic_truth_L : List Code := selI [] (loopsOf logic_truth_code)
noncomputable def logic_truth_J : List Code := selI [] (joinsOf logic_truth_code)
noncomputable def logic_truth_S : List Code := scopesOf logic_truth_code
theorem logic_truth_cok {ρ : Type} (k : Nat) : COK (logic_truth_cfg (ρ := ρ) k) (logic_truth_G k) logic_truth_code :=
  cok_of (tl := []) (tj := []) (tb := []) rfl rfl rfl (nil_all (by kernel_rfl)) (nil_all (by kernel_rfl)) (fun p hp => by cases hp)
noncomputable def logic_truth_enc (r : Int × Int) : AV UU := .pv (.tup [.int .i64 r.1, .int .i64 r.2])
noncomputable def logic_truth_dec (v : AV UU) (_ : List (List (AV UU))) : Option (Int × Int) :=
asT v fun q1 =>
popA q1 fun p2 q3 =>
asI .i64 (.pv p2) fun r0 =>
popA q3 fun p4 q5 =>
asI .i64 (.pv p4) fun r1 =>
popN q5 <|
some (r0, r1)
theorem logic_truth_dec_enc (v : AV UU) (b : List (List (AV UU))) (r : Int × Int) (h : logic_truth_dec v b = some r) : v = logic_truth_enc r := by
  unfold logic_truth_dec at h
  replace h := asT_inv h; obtain ⟨q1, rfl, h⟩ := h
  replace h := popA_inv h; obtain ⟨p2, q3, rfl, h⟩ := h
  replace h := asI_inv h; obtain ⟨r0, e, h⟩ := h; cases e
  replace h := popA_inv h; obtain ⟨p4, q5, rfl, h⟩ := h
  replace h := asI_inv h; obtain ⟨r1, e, h⟩ := h; cases e
  replace h := popN_inv h; obtain ⟨rfl, h⟩ := h
  cases h
  rfl
theorem logic_truth_eq (k : Nat) (v0 : S29) : bodyK UX (logic_truth_cfg k) (logic_truth_G k) Tryd.f53 [.pv (.typ (.s29 v0))] [] logic_truth_dec = logic_truth k v0 := by kernel_rfl
theorem logic_truth_con (k : Nat) (v0 : S29) (r : Int × Int) (h : logic_truth k v0 = some r) : Con (X := UX) Tryd.prog 53 [.pv (.typ (.s29 v0))] [] (logic_truth_enc r) [] :=
  con_of_body xok tok Tryd.func53 logic_truth_body (logic_truth_gok k) rfl (logic_truth_cok k) (of_decide_eq_true (by kernel_rfl)) logic_truth_dec_enc ((logic_truth_eq k v0).trans h)
noncomputable def logic_truth_an {ρ : Type} (k : Nat) : An UX ρ := fun args bx K =>
popA args fun v1 a2 =>
as_s29 v1 fun v0 =>
popN a2 <|
popN bx <|
(logic_truth k v0).bind fun r => K (logic_truth_enc r) []
theorem logic_truth_ok {ρ : Type} (k : Nat) : AnsOK Tryd.prog 53 (logic_truth_an (ρ := ρ) k) := by
  intro args bx K r h
  unfold logic_truth_an at h
  replace h := popA_inv h; obtain ⟨v1, a2, rfl, h⟩ := h
  replace h := as_s29_inv h; obtain ⟨v0, rfl, h⟩ := h
  replace h := popN_inv h; obtain ⟨rfl, h⟩ := h
  replace h := popN_inv h; obtain ⟨rfl, h⟩ := h
  replace h := bind_inv h
  obtain ⟨x, hx, h⟩ := h
  exact ⟨there_of Tryd.func53 (by kernel_rfl) logic_truth_body, _, _, h, logic_truth_con k v0 x hx⟩

/-! cadastre/value.Int -/
noncomputable def value_Int_code : Code := match Tryd.f65.body with | some c => c | none => .skip
theorem value_Int_body : Tryd.f65.body = some value_Int_code := by kernel_rfl
noncomputable def value_Int_G {ρ : Type} (k : Nat) : Ans UX ρ := gnil
theorem value_Int_gok {ρ : Type} (k : Nat) : GOK Tryd.prog (value_Int_G (ρ := ρ) k) := gok_nil
noncomputable def value_Int_cfg {ρ : Type} (k : Nat) : Cfg UX ρ where
  live i := (assoc [(0, [0]), (1, [0, 2])] i).getD []
  boxes i := (assoc [(0, []), (1, [2])] i).getD []
  tk i := (assoc [] i).getD []
  n := 5
  labelR l := (assoc [] l).getD 0
  loops := assoc []
  labels := assoc []
  joins := assoc []
  xl i e := match e with
    | .nxt => assoc [] i
    | .ret => assoc [] i
    | .exit j => (assoc [] i).bind fun l => assoc l j
    | .goto j => (assoc [] i).bind fun l => assoc l j
noncomputable def value_Int_L : List Code := selI [] (loopsOf value_Int_code)
noncomputable def value_Int_J : List Code := selI [] (joinsOf value_Int_code)
noncomputable def value_Int_S : List Code := scopesOf value_Int_code
theorem value_Int_cok {ρ : Type} (k : Nat) : COK (value_Int_cfg (ρ := ρ) k) (value_Int_G k) value_Int_code :=
  cok_of (tl := []) (tj := []) (tb := []) rfl rfl rfl (nil_all (by kernel_rfl)) (nil_all (by kernel_rfl)) (fun p hp => by cases hp)
noncomputable def value_Int_enc (r : S29) : AV UU := .pv (.typ (.s29 r))
noncomputable def value_Int_dec (v : AV UU) (_ : List (List (AV UU))) : Option S29 :=
as_s29 v fun r0 =>
some r0
theorem value_Int_dec_enc (v : AV UU) (b : List (List (AV UU))) (r : S29) (h : value_Int_dec v b = some r) : v = value_Int_enc r := by
  unfold value_Int_dec at h
  replace h := as_s29_inv h; obtain ⟨r0, rfl, h⟩ := h
  cases h
  rfl
theorem value_Int_eq (k : Nat) (n0 : Int) : bodyK UX (value_Int_cfg k) (value_Int_G k) Tryd.f65 [.pv (.int .i64 n0)] [] value_Int_dec = value_Int k n0 := by kernel_rfl
theorem value_Int_con (k : Nat) (n0 : Int) (r : S29) (h : value_Int k n0 = some r) : Con (X := UX) Tryd.prog 65 [.pv (.int .i64 n0)] [] (value_Int_enc r) [] :=
  con_of_body xok tok Tryd.func65 value_Int_body (value_Int_gok k) rfl (value_Int_cok k) (of_decide_eq_true (by kernel_rfl)) value_Int_dec_enc ((value_Int_eq k n0).trans h)
noncomputable def value_Int_an {ρ : Type} (k : Nat) : An UX ρ := fun args bx K =>
popA args fun v1 a2 =>
asI .i64 v1 fun n0 =>
popN a2 <|
popN bx <|
(value_Int k n0).bind fun r => K (value_Int_enc r) []
theorem value_Int_ok {ρ : Type} (k : Nat) : AnsOK Tryd.prog 65 (value_Int_an (ρ := ρ) k) := by
  intro args bx K r h
  unfold value_Int_an at h
  replace h := popA_inv h; obtain ⟨v1, a2, rfl, h⟩ := h
  replace h := asI_inv h; obtain ⟨n0, rfl, h⟩ := h
  replace h := popN_inv h; obtain ⟨rfl, h⟩ := h
  replace h := popN_inv h; obtain ⟨rfl, h⟩ := h
  replace h := bind_inv h
  obtain ⟨x, hx, h⟩ := h
  exact ⟨there_of Tryd.func65 (by kernel_rfl) value_Int_body, _, _, h, value_Int_con k n0 x hx⟩
end Go.Proofs.YtjkgphpmdkbpfaaDoor.V
