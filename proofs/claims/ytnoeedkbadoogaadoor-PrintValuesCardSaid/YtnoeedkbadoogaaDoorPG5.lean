/-
  What the program's functions answer: the printed functions' answers.
-/
import Derived.Test.YtnoeedkbadoogaaDoorPG4
namespace Go.Proofs.YtnoeedkbadoogaaDoor.P
open Go Go.AX
/-! cadastre/print.kinds -/
noncomputable def print_kinds_code : Code := match Tryd.f49.body with | some c => c | none => .skip
theorem print_kinds_body : Tryd.f49.body = some print_kinds_code := by kernel_rfl
noncomputable def print_kinds_G {ρ : Type} (k : Nat) : Ans UX ρ := gk 79 (print_bare_an k) (gk 80 (print_names_an k) (gk 81 (print_columns_an k) (gk 82 (print_many_string__an k) (gk 83 (api_Expr__83_an k) (gk 84 (api_Set__84_an k) (gk 77 (print_Name_an k) (gnil)))))))
theorem print_kinds_gok {ρ : Type} (k : Nat) : GOK Tryd.prog (print_kinds_G (ρ := ρ) k) := gok_cons (print_bare_ok k) (gok_cons (print_names_ok k) (gok_cons (print_columns_ok k) (gok_cons (print_many_string__ok k) (gok_cons (api_Expr__83_ok k) (gok_cons (api_Set__84_ok k) (gok_cons (print_Name_ok k) (gok_nil)))))))
noncomputable def print_kinds_j5_s {ρ : Type} (k : Nat) : Run UX ρ := fun s K =>
popS 1 s.env fun v1 e2 =>
asP 1 0 v1 <|
popS 2 e2 fun v3 e4 =>
asP 2 0 v3 <|
popN e4 <|
popB 1 s.hp fun c5 e6 =>
popA c5 fun v7 c8 =>
asI .i64 v7 fun z9 =>
popA c8 fun v10 c11 =>
asS v10 fun z12 =>
popA c11 fun v13 c14 =>
asS v13 fun z15 =>
popA c14 fun v16 c17 =>
asB v16 fun z18 =>
popA c17 fun v19 c20 =>
as_l113 v19 fun z21 =>
popA c20 fun v22 c23 =>
as_ls v22 fun z24 =>
popA c23 fun v25 c26 =>
as_ll25 v25 fun z27 =>
popA c26 fun v28 c29 =>
as_l90 v28 fun z30 =>
popA c29 fun v31 c32 =>
as_ls v31 fun z33 =>
popA c32 fun v34 c35 =>
asB v34 fun z36 =>
popA c35 fun v37 c38 =>
as_l25 v37 fun z39 =>
popA c38 fun v40 c41 =>
as_l25 v40 fun z42 =>
popA c41 fun v43 c44 =>
as_l106 v43 fun z45 =>
popN c44 <|
popB 2 e6 fun c46 e47 =>
popA c46 fun v48 c49 =>
asI .i64 v48 fun z50 =>
popA c49 fun v51 c52 =>
asS v51 fun z53 =>
popA c52 fun v54 c55 =>
asS v54 fun z56 =>
popA c55 fun v57 c58 =>
asB v57 fun z59 =>
popA c58 fun v60 c61 =>
as_l113 v60 fun z62 =>
popA c61 fun v63 c64 =>
as_ls v63 fun z65 =>
popA c64 fun v66 c67 =>
as_ll25 v66 fun z68 =>
popA c67 fun v69 c70 =>
as_l90 v69 fun z71 =>
popA c70 fun v72 c73 =>
as_ls v72 fun z74 =>
popA c73 fun v75 c76 =>
asB v75 fun z77 =>
popA c76 fun v78 c79 =>
as_l25 v78 fun z80 =>
popA c79 fun v81 c82 =>
as_l25 v81 fun z83 =>
popA c82 fun v84 c85 =>
as_l106 v84 fun z86 =>
popN c85 <|
popN e47 <|
print_kinds_j5 k (fun ok3 rest2 => K .ret ⟨[(2, .ptr 2 0), (3, .pv (.bool ok3))], [(2, [.pv (.int .i64 rest2.f0), .pv (.str rest2.f1), .pv (.str rest2.f2), .pv (.bool rest2.f3), .pv (.typ (.l113 rest2.f4)), .pv (.typ (.ls rest2.f5)), .pv (.typ (.ll25 rest2.f6)), .pv (.typ (.l90 rest2.f7)), .pv (.typ (.ls rest2.f8)), .pv (.bool rest2.f9), .pv (.typ (.l25 rest2.f10)), .pv (.typ (.l25 rest2.f11)), .pv (.typ (.l106 rest2.f12))])]⟩) (⟨z9, z12, z15, z18, z21, z24, z27, z30, z33, z36, z39, z42, z45⟩ : S60) (⟨z50, z53, z56, z59, z62, z65, z68, z71, z74, z77, z80, z83, z86⟩ : S60)
noncomputable def print_kinds_j12_s {ρ : Type} (k : Nat) : Run UX ρ := fun s K =>
popS 1 s.env fun v1 e2 =>
asP 1 0 v1 <|
popS 2 e2 fun v3 e4 =>
asP 2 0 v3 <|
popN e4 <|
popB 1 s.hp fun c5 e6 =>
popA c5 fun v7 c8 =>
asI .i64 v7 fun z9 =>
popA c8 fun v10 c11 =>
asS v10 fun z12 =>
popA c11 fun v13 c14 =>
asS v13 fun z15 =>
popA c14 fun v16 c17 =>
asB v16 fun z18 =>
popA c17 fun v19 c20 =>
as_l113 v19 fun z21 =>
popA c20 fun v22 c23 =>
as_ls v22 fun z24 =>
popA c23 fun v25 c26 =>
as_ll25 v25 fun z27 =>
popA c26 fun v28 c29 =>
as_l90 v28 fun z30 =>
popA c29 fun v31 c32 =>
as_ls v31 fun z33 =>
popA c32 fun v34 c35 =>
asB v34 fun z36 =>
popA c35 fun v37 c38 =>
as_l25 v37 fun z39 =>
popA c38 fun v40 c41 =>
as_l25 v40 fun z42 =>
popA c41 fun v43 c44 =>
as_l106 v43 fun z45 =>
popN c44 <|
popB 2 e6 fun c46 e47 =>
popA c46 fun v48 c49 =>
asI .i64 v48 fun z50 =>
popA c49 fun v51 c52 =>
asS v51 fun z53 =>
popA c52 fun v54 c55 =>
asS v54 fun z56 =>
popA c55 fun v57 c58 =>
asB v57 fun z59 =>
popA c58 fun v60 c61 =>
as_l113 v60 fun z62 =>
popA c61 fun v63 c64 =>
as_ls v63 fun z65 =>
popA c64 fun v66 c67 =>
as_ll25 v66 fun z68 =>
popA c67 fun v69 c70 =>
as_l90 v69 fun z71 =>
popA c70 fun v72 c73 =>
as_ls v72 fun z74 =>
popA c73 fun v75 c76 =>
asB v75 fun z77 =>
popA c76 fun v78 c79 =>
as_l25 v78 fun z80 =>
popA c79 fun v81 c82 =>
as_l25 v81 fun z83 =>
popA c82 fun v84 c85 =>
as_l106 v84 fun z86 =>
popN c85 <|
popN e47 <|
print_kinds_j12 k (fun ok3 rest2 => K .ret ⟨[(2, .ptr 2 0), (3, .pv (.bool ok3))], [(2, [.pv (.int .i64 rest2.f0), .pv (.str rest2.f1), .pv (.str rest2.f2), .pv (.bool rest2.f3), .pv (.typ (.l113 rest2.f4)), .pv (.typ (.ls rest2.f5)), .pv (.typ (.ll25 rest2.f6)), .pv (.typ (.l90 rest2.f7)), .pv (.typ (.ls rest2.f8)), .pv (.bool rest2.f9), .pv (.typ (.l25 rest2.f10)), .pv (.typ (.l25 rest2.f11)), .pv (.typ (.l106 rest2.f12))])]⟩) (⟨z9, z12, z15, z18, z21, z24, z27, z30, z33, z36, z39, z42, z45⟩ : S60) (⟨z50, z53, z56, z59, z62, z65, z68, z71, z74, z77, z80, z83, z86⟩ : S60)
noncomputable def print_kinds_l18_s {ρ : Type} (k : Nat) : Run UX ρ := fun s K =>
popS 2 s.env fun v1 e2 =>
asP 2 0 v1 <|
popS 3 e2 fun v3 e4 =>
asB v3 fun ok3 =>
popS 77 e4 fun v5 e6 =>
as_ll25 v5 fun t77 =>
popS 78 e6 fun v7 e8 =>
asI .i64 v7 fun t78 =>
popS 79 e8 fun v9 e10 =>
asI .i64 v9 fun t79 =>
popN e10 <|
popB 2 s.hp fun c11 e12 =>
popA c11 fun v13 c14 =>
asI .i64 v13 fun z15 =>
popA c14 fun v16 c17 =>
asS v16 fun z18 =>
popA c17 fun v19 c20 =>
asS v19 fun z21 =>
popA c20 fun v22 c23 =>
asB v22 fun z24 =>
popA c23 fun v25 c26 =>
as_l113 v25 fun z27 =>
popA c26 fun v28 c29 =>
as_ls v28 fun z30 =>
popA c29 fun v31 c32 =>
as_ll25 v31 fun z33 =>
popA c32 fun v34 c35 =>
as_l90 v34 fun z36 =>
popA c35 fun v37 c38 =>
as_ls v37 fun z39 =>
popA c38 fun v40 c41 =>
asB v40 fun z42 =>
popA c41 fun v43 c44 =>
as_l25 v43 fun z45 =>
popA c44 fun v46 c47 =>
as_l25 v46 fun z48 =>
popA c47 fun v49 c50 =>
as_l106 v49 fun z51 =>
popN c50 <|
popN e12 <|
print_kinds_l18 k (fun ok3 rest2 => K (.exit 1) ⟨[(2, .ptr 2 0), (3, .pv (.bool ok3))], [(2, [.pv (.int .i64 rest2.f0), .pv (.str rest2.f1), .pv (.str rest2.f2), .pv (.bool rest2.f3), .pv (.typ (.l113 rest2.f4)), .pv (.typ (.ls rest2.f5)), .pv (.typ (.ll25 rest2.f6)), .pv (.typ (.l90 rest2.f7)), .pv (.typ (.ls rest2.f8)), .pv (.bool rest2.f9), .pv (.typ (.l25 rest2.f10)), .pv (.typ (.l25 rest2.f11)), .pv (.typ (.l106 rest2.f12))])]⟩) k ok3 t77 t78 t79 (⟨z15, z18, z21, z24, z27, z30, z33, z36, z39, z42, z45, z48, z51⟩ : S60)
noncomputable def print_kinds_j17_s {ρ : Type} (k : Nat) : Run UX ρ := fun s K =>
popS 1 s.env fun v1 e2 =>
asP 1 0 v1 <|
popS 2 e2 fun v3 e4 =>
asP 2 0 v3 <|
popS 3 e4 fun v5 e6 =>
asB v5 fun ok3 =>
popN e6 <|
popB 1 s.hp fun c7 e8 =>
popA c7 fun v9 c10 =>
asI .i64 v9 fun z11 =>
popA c10 fun v12 c13 =>
asS v12 fun z14 =>
popA c13 fun v15 c16 =>
asS v15 fun z17 =>
popA c16 fun v18 c19 =>
asB v18 fun z20 =>
popA c19 fun v21 c22 =>
as_l113 v21 fun z23 =>
popA c22 fun v24 c25 =>
as_ls v24 fun z26 =>
popA c25 fun v27 c28 =>
as_ll25 v27 fun z29 =>
popA c28 fun v30 c31 =>
as_l90 v30 fun z32 =>
popA c31 fun v33 c34 =>
as_ls v33 fun z35 =>
popA c34 fun v36 c37 =>
asB v36 fun z38 =>
popA c37 fun v39 c40 =>
as_l25 v39 fun z41 =>
popA c40 fun v42 c43 =>
as_l25 v42 fun z44 =>
popA c43 fun v45 c46 =>
as_l106 v45 fun z47 =>
popN c46 <|
popB 2 e8 fun c48 e49 =>
popA c48 fun v50 c51 =>
asI .i64 v50 fun z52 =>
popA c51 fun v53 c54 =>
asS v53 fun z55 =>
popA c54 fun v56 c57 =>
asS v56 fun z58 =>
popA c57 fun v59 c60 =>
asB v59 fun z61 =>
popA c60 fun v62 c63 =>
as_l113 v62 fun z64 =>
popA c63 fun v65 c66 =>
as_ls v65 fun z67 =>
popA c66 fun v68 c69 =>
as_ll25 v68 fun z70 =>
popA c69 fun v71 c72 =>
as_l90 v71 fun z73 =>
popA c72 fun v74 c75 =>
as_ls v74 fun z76 =>
popA c75 fun v77 c78 =>
asB v77 fun z79 =>
popA c78 fun v80 c81 =>
as_l25 v80 fun z82 =>
popA c81 fun v83 c84 =>
as_l25 v83 fun z85 =>
popA c84 fun v86 c87 =>
as_l106 v86 fun z88 =>
popN c87 <|
popN e49 <|
print_kinds_j17 k (fun ok3 rest2 => K .ret ⟨[(2, .ptr 2 0), (3, .pv (.bool ok3))], [(2, [.pv (.int .i64 rest2.f0), .pv (.str rest2.f1), .pv (.str rest2.f2), .pv (.bool rest2.f3), .pv (.typ (.l113 rest2.f4)), .pv (.typ (.ls rest2.f5)), .pv (.typ (.ll25 rest2.f6)), .pv (.typ (.l90 rest2.f7)), .pv (.typ (.ls rest2.f8)), .pv (.bool rest2.f9), .pv (.typ (.l25 rest2.f10)), .pv (.typ (.l25 rest2.f11)), .pv (.typ (.l106 rest2.f12))])]⟩) ok3 (⟨z11, z14, z17, z20, z23, z26, z29, z32, z35, z38, z41, z44, z47⟩ : S60) (⟨z52, z55, z58, z61, z64, z67, z70, z73, z76, z79, z82, z85, z88⟩ : S60)
noncomputable def print_kinds_l30_s {ρ : Type} (k : Nat) : Run UX ρ := fun s K =>
popS 2 s.env fun v1 e2 =>
asP 2 0 v1 <|
popS 3 e2 fun v3 e4 =>
asB v3 fun ok3 =>
popS 127 e4 fun v5 e6 =>
as_l90 v5 fun t127 =>
popS 128 e6 fun v7 e8 =>
asI .i64 v7 fun t128 =>
popS 129 e8 fun v9 e10 =>
asI .i64 v9 fun t129 =>
popN e10 <|
popB 2 s.hp fun c11 e12 =>
popA c11 fun v13 c14 =>
asI .i64 v13 fun z15 =>
popA c14 fun v16 c17 =>
asS v16 fun z18 =>
popA c17 fun v19 c20 =>
asS v19 fun z21 =>
popA c20 fun v22 c23 =>
asB v22 fun z24 =>
popA c23 fun v25 c26 =>
as_l113 v25 fun z27 =>
popA c26 fun v28 c29 =>
as_ls v28 fun z30 =>
popA c29 fun v31 c32 =>
as_ll25 v31 fun z33 =>
popA c32 fun v34 c35 =>
as_l90 v34 fun z36 =>
popA c35 fun v37 c38 =>
as_ls v37 fun z39 =>
popA c38 fun v40 c41 =>
asB v40 fun z42 =>
popA c41 fun v43 c44 =>
as_l25 v43 fun z45 =>
popA c44 fun v46 c47 =>
as_l25 v46 fun z48 =>
popA c47 fun v49 c50 =>
as_l106 v49 fun z51 =>
popN c50 <|
popN e12 <|
print_kinds_l30 k (fun ok3 rest2 => K (.exit 3) ⟨[(2, .ptr 2 0), (3, .pv (.bool ok3))], [(2, [.pv (.int .i64 rest2.f0), .pv (.str rest2.f1), .pv (.str rest2.f2), .pv (.bool rest2.f3), .pv (.typ (.l113 rest2.f4)), .pv (.typ (.ls rest2.f5)), .pv (.typ (.ll25 rest2.f6)), .pv (.typ (.l90 rest2.f7)), .pv (.typ (.ls rest2.f8)), .pv (.bool rest2.f9), .pv (.typ (.l25 rest2.f10)), .pv (.typ (.l25 rest2.f11)), .pv (.typ (.l106 rest2.f12))])]⟩) k ok3 t127 t128 t129 (⟨z15, z18, z21, z24, z27, z30, z33, z36, z39, z42, z45, z48, z51⟩ : S60)
noncomputable def print_kinds_j29_s {ρ : Type} (k : Nat) : Run UX ρ := fun s K =>
popS 1 s.env fun v1 e2 =>
asP 1 0 v1 <|
popS 2 e2 fun v3 e4 =>
asP 2 0 v3 <|
popS 3 e4 fun v5 e6 =>
asB v5 fun ok3 =>
popN e6 <|
popB 1 s.hp fun c7 e8 =>
popA c7 fun v9 c10 =>
asI .i64 v9 fun z11 =>
popA c10 fun v12 c13 =>
asS v12 fun z14 =>
popA c13 fun v15 c16 =>
asS v15 fun z17 =>
popA c16 fun v18 c19 =>
asB v18 fun z20 =>
popA c19 fun v21 c22 =>
as_l113 v21 fun z23 =>
popA c22 fun v24 c25 =>
as_ls v24 fun z26 =>
popA c25 fun v27 c28 =>
as_ll25 v27 fun z29 =>
popA c28 fun v30 c31 =>
as_l90 v30 fun z32 =>
popA c31 fun v33 c34 =>
as_ls v33 fun z35 =>
popA c34 fun v36 c37 =>
asB v36 fun z38 =>
popA c37 fun v39 c40 =>
as_l25 v39 fun z41 =>
popA c40 fun v42 c43 =>
as_l25 v42 fun z44 =>
popA c43 fun v45 c46 =>
as_l106 v45 fun z47 =>
popN c46 <|
popB 2 e8 fun c48 e49 =>
popA c48 fun v50 c51 =>
asI .i64 v50 fun z52 =>
popA c51 fun v53 c54 =>
asS v53 fun z55 =>
popA c54 fun v56 c57 =>
asS v56 fun z58 =>
popA c57 fun v59 c60 =>
asB v59 fun z61 =>
popA c60 fun v62 c63 =>
as_l113 v62 fun z64 =>
popA c63 fun v65 c66 =>
as_ls v65 fun z67 =>
popA c66 fun v68 c69 =>
as_ll25 v68 fun z70 =>
popA c69 fun v71 c72 =>
as_l90 v71 fun z73 =>
popA c72 fun v74 c75 =>
as_ls v74 fun z76 =>
popA c75 fun v77 c78 =>
asB v77 fun z79 =>
popA c78 fun v80 c81 =>
as_l25 v80 fun z82 =>
popA c81 fun v83 c84 =>
as_l25 v83 fun z85 =>
popA c84 fun v86 c87 =>
as_l106 v86 fun z88 =>
popN c87 <|
popN e49 <|
print_kinds_j29 k (fun ok3 rest2 => K .ret ⟨[(2, .ptr 2 0), (3, .pv (.bool ok3))], [(2, [.pv (.int .i64 rest2.f0), .pv (.str rest2.f1), .pv (.str rest2.f2), .pv (.bool rest2.f3), .pv (.typ (.l113 rest2.f4)), .pv (.typ (.ls rest2.f5)), .pv (.typ (.ll25 rest2.f6)), .pv (.typ (.l90 rest2.f7)), .pv (.typ (.ls rest2.f8)), .pv (.bool rest2.f9), .pv (.typ (.l25 rest2.f10)), .pv (.typ (.l25 rest2.f11)), .pv (.typ (.l106 rest2.f12))])]⟩) ok3 (⟨z11, z14, z17, z20, z23, z26, z29, z32, z35, z38, z41, z44, z47⟩ : S60) (⟨z52, z55, z58, z61, z64, z67, z70, z73, z76, z79, z82, z85, z88⟩ : S60)
noncomputable def print_kinds_j38_s {ρ : Type} (k : Nat) : Run UX ρ := fun s K =>
popS 1 s.env fun v1 e2 =>
asP 1 0 v1 <|
popS 2 e2 fun v3 e4 =>
asP 2 0 v3 <|
popS 3 e4 fun v5 e6 =>
asB v5 fun ok3 =>
popN e6 <|
popB 1 s.hp fun c7 e8 =>
popA c7 fun v9 c10 =>
asI .i64 v9 fun z11 =>
popA c10 fun v12 c13 =>
asS v12 fun z14 =>
popA c13 fun v15 c16 =>
asS v15 fun z17 =>
popA c16 fun v18 c19 =>
asB v18 fun z20 =>
popA c19 fun v21 c22 =>
as_l113 v21 fun z23 =>
popA c22 fun v24 c25 =>
as_ls v24 fun z26 =>
popA c25 fun v27 c28 =>
as_ll25 v27 fun z29 =>
popA c28 fun v30 c31 =>
as_l90 v30 fun z32 =>
popA c31 fun v33 c34 =>
as_ls v33 fun z35 =>
popA c34 fun v36 c37 =>
asB v36 fun z38 =>
popA c37 fun v39 c40 =>
as_l25 v39 fun z41 =>
popA c40 fun v42 c43 =>
as_l25 v42 fun z44 =>
popA c43 fun v45 c46 =>
as_l106 v45 fun z47 =>
popN c46 <|
popB 2 e8 fun c48 e49 =>
popA c48 fun v50 c51 =>
asI .i64 v50 fun z52 =>
popA c51 fun v53 c54 =>
asS v53 fun z55 =>
popA c54 fun v56 c57 =>
asS v56 fun z58 =>
popA c57 fun v59 c60 =>
asB v59 fun z61 =>
popA c60 fun v62 c63 =>
as_l113 v62 fun z64 =>
popA c63 fun v65 c66 =>
as_ls v65 fun z67 =>
popA c66 fun v68 c69 =>
as_ll25 v68 fun z70 =>
popA c69 fun v71 c72 =>
as_l90 v71 fun z73 =>
popA c72 fun v74 c75 =>
as_ls v74 fun z76 =>
popA c75 fun v77 c78 =>
asB v77 fun z79 =>
popA c78 fun v80 c81 =>
as_l25 v80 fun z82 =>
popA c81 fun v83 c84 =>
as_l25 v83 fun z85 =>
popA c84 fun v86 c87 =>
as_l106 v86 fun z88 =>
popN c87 <|
popN e49 <|
print_kinds_j38 k (fun ok3 rest2 => K .ret ⟨[(2, .ptr 2 0), (3, .pv (.bool ok3))], [(2, [.pv (.int .i64 rest2.f0), .pv (.str rest2.f1), .pv (.str rest2.f2), .pv (.bool rest2.f3), .pv (.typ (.l113 rest2.f4)), .pv (.typ (.ls rest2.f5)), .pv (.typ (.ll25 rest2.f6)), .pv (.typ (.l90 rest2.f7)), .pv (.typ (.ls rest2.f8)), .pv (.bool rest2.f9), .pv (.typ (.l25 rest2.f10)), .pv (.typ (.l25 rest2.f11)), .pv (.typ (.l106 rest2.f12))])]⟩) ok3 (⟨z11, z14, z17, z20, z23, z26, z29, z32, z35, z38, z41, z44, z47⟩ : S60) (⟨z52, z55, z58, z61, z64, z67, z70, z73, z76, z79, z82, z85, z88⟩ : S60)
noncomputable def print_kinds_j14_s {ρ : Type} (k : Nat) : Run UX ρ := fun s K =>
popS 1 s.env fun v1 e2 =>
asP 1 0 v1 <|
popS 2 e2 fun v3 e4 =>
asP 2 0 v3 <|
popS 11 e4 fun v5 e6 =>
asI .i64 v5 fun t11 =>
popN e6 <|
popB 1 s.hp fun c7 e8 =>
popA c7 fun v9 c10 =>
asI .i64 v9 fun z11 =>
popA c10 fun v12 c13 =>
asS v12 fun z14 =>
popA c13 fun v15 c16 =>
asS v15 fun z17 =>
popA c16 fun v18 c19 =>
asB v18 fun z20 =>
popA c19 fun v21 c22 =>
as_l113 v21 fun z23 =>
popA c22 fun v24 c25 =>
as_ls v24 fun z26 =>
popA c25 fun v27 c28 =>
as_ll25 v27 fun z29 =>
popA c28 fun v30 c31 =>
as_l90 v30 fun z32 =>
popA c31 fun v33 c34 =>
as_ls v33 fun z35 =>
popA c34 fun v36 c37 =>
asB v36 fun z38 =>
popA c37 fun v39 c40 =>
as_l25 v39 fun z41 =>
popA c40 fun v42 c43 =>
as_l25 v42 fun z44 =>
popA c43 fun v45 c46 =>
as_l106 v45 fun z47 =>
popN c46 <|
popB 2 e8 fun c48 e49 =>
popA c48 fun v50 c51 =>
asI .i64 v50 fun z52 =>
popA c51 fun v53 c54 =>
asS v53 fun z55 =>
popA c54 fun v56 c57 =>
asS v56 fun z58 =>
popA c57 fun v59 c60 =>
asB v59 fun z61 =>
popA c60 fun v62 c63 =>
as_l113 v62 fun z64 =>
popA c63 fun v65 c66 =>
as_ls v65 fun z67 =>
popA c66 fun v68 c69 =>
as_ll25 v68 fun z70 =>
popA c69 fun v71 c72 =>
as_l90 v71 fun z73 =>
popA c72 fun v74 c75 =>
as_ls v74 fun z76 =>
popA c75 fun v77 c78 =>
asB v77 fun z79 =>
popA c78 fun v80 c81 =>
as_l25 v80 fun z82 =>
popA c81 fun v83 c84 =>
as_l25 v83 fun z85 =>
popA c84 fun v86 c87 =>
as_l106 v86 fun z88 =>
popN c87 <|
popN e49 <|
print_kinds_j14 k (fun ok3 rest2 => K .ret ⟨[(2, .ptr 2 0), (3, .pv (.bool ok3))], [(2, [.pv (.int .i64 rest2.f0), .pv (.str rest2.f1), .pv (.str rest2.f2), .pv (.bool rest2.f3), .pv (.typ (.l113 rest2.f4)), .pv (.typ (.ls rest2.f5)), .pv (.typ (.ll25 rest2.f6)), .pv (.typ (.l90 rest2.f7)), .pv (.typ (.ls rest2.f8)), .pv (.bool rest2.f9), .pv (.typ (.l25 rest2.f10)), .pv (.typ (.l25 rest2.f11)), .pv (.typ (.l106 rest2.f12))])]⟩) (fun rest2 => K .nxt ⟨[(2, .ptr 2 0)], [(2, [.pv (.int .i64 rest2.f0), .pv (.str rest2.f1), .pv (.str rest2.f2), .pv (.bool rest2.f3), .pv (.typ (.l113 rest2.f4)), .pv (.typ (.ls rest2.f5)), .pv (.typ (.ll25 rest2.f6)), .pv (.typ (.l90 rest2.f7)), .pv (.typ (.ls rest2.f8)), .pv (.bool rest2.f9), .pv (.typ (.l25 rest2.f10)), .pv (.typ (.l25 rest2.f11)), .pv (.typ (.l106 rest2.f12))])]⟩) t11 (⟨z11, z14, z17, z20, z23, z26, z29, z32, z35, z38, z41, z44, z47⟩ : S60) (⟨z52, z55, z58, z61, z64, z67, z70, z73, z76, z79, z82, z85, z88⟩ : S60)
noncomputable def print_kinds_j7_s {ρ : Type} (k : Nat) : Run UX ρ := fun s K =>
popS 1 s.env fun v1 e2 =>
asP 1 0 v1 <|
popS 2 e2 fun v3 e4 =>
asP 2 0 v3 <|
popS 11 e4 fun v5 e6 =>
asI .i64 v5 fun t11 =>
popN e6 <|
popB 1 s.hp fun c7 e8 =>
popA c7 fun v9 c10 =>
asI .i64 v9 fun z11 =>
popA c10 fun v12 c13 =>
asS v12 fun z14 =>
popA c13 fun v15 c16 =>
asS v15 fun z17 =>
popA c16 fun v18 c19 =>
asB v18 fun z20 =>
popA c19 fun v21 c22 =>
as_l113 v21 fun z23 =>
popA c22 fun v24 c25 =>
as_ls v24 fun z26 =>
popA c25 fun v27 c28 =>
as_ll25 v27 fun z29 =>
popA c28 fun v30 c31 =>
as_l90 v30 fun z32 =>
popA c31 fun v33 c34 =>
as_ls v33 fun z35 =>
popA c34 fun v36 c37 =>
asB v36 fun z38 =>
popA c37 fun v39 c40 =>
as_l25 v39 fun z41 =>
popA c40 fun v42 c43 =>
as_l25 v42 fun z44 =>
popA c43 fun v45 c46 =>
as_l106 v45 fun z47 =>
popN c46 <|
popB 2 e8 fun c48 e49 =>
popA c48 fun v50 c51 =>
asI .i64 v50 fun z52 =>
popA c51 fun v53 c54 =>
asS v53 fun z55 =>
popA c54 fun v56 c57 =>
asS v56 fun z58 =>
popA c57 fun v59 c60 =>
asB v59 fun z61 =>
popA c60 fun v62 c63 =>
as_l113 v62 fun z64 =>
popA c63 fun v65 c66 =>
as_ls v65 fun z67 =>
popA c66 fun v68 c69 =>
as_ll25 v68 fun z70 =>
popA c69 fun v71 c72 =>
as_l90 v71 fun z73 =>
popA c72 fun v74 c75 =>
as_ls v74 fun z76 =>
popA c75 fun v77 c78 =>
asB v77 fun z79 =>
popA c78 fun v80 c81 =>
as_l25 v80 fun z82 =>
popA c81 fun v83 c84 =>
as_l25 v83 fun z85 =>
popA c84 fun v86 c87 =>
as_l106 v86 fun z88 =>
popN c87 <|
popN e49 <|
print_kinds_j7 k (fun ok3 rest2 => K .ret ⟨[(2, .ptr 2 0), (3, .pv (.bool ok3))], [(2, [.pv (.int .i64 rest2.f0), .pv (.str rest2.f1), .pv (.str rest2.f2), .pv (.bool rest2.f3), .pv (.typ (.l113 rest2.f4)), .pv (.typ (.ls rest2.f5)), .pv (.typ (.ll25 rest2.f6)), .pv (.typ (.l90 rest2.f7)), .pv (.typ (.ls rest2.f8)), .pv (.bool rest2.f9), .pv (.typ (.l25 rest2.f10)), .pv (.typ (.l25 rest2.f11)), .pv (.typ (.l106 rest2.f12))])]⟩) (fun rest2 => K .nxt ⟨[(2, .ptr 2 0)], [(2, [.pv (.int .i64 rest2.f0), .pv (.str rest2.f1), .pv (.str rest2.f2), .pv (.bool rest2.f3), .pv (.typ (.l113 rest2.f4)), .pv (.typ (.ls rest2.f5)), .pv (.typ (.ll25 rest2.f6)), .pv (.typ (.l90 rest2.f7)), .pv (.typ (.ls rest2.f8)), .pv (.bool rest2.f9), .pv (.typ (.l25 rest2.f10)), .pv (.typ (.l25 rest2.f11)), .pv (.typ (.l106 rest2.f12))])]⟩) t11 (⟨z11, z14, z17, z20, z23, z26, z29, z32, z35, z38, z41, z44, z47⟩ : S60) (⟨z52, z55, z58, z61, z64, z67, z70, z73, z76, z79, z82, z85, z88⟩ : S60)
noncomputable def print_kinds_cfg {ρ : Type} (k : Nat) : Cfg UX ρ where
  live i := (assoc [(0, [0]), (1, [1, 2]), (2, [1, 2]), (3, [1, 2, 11]), (4, [1, 2, 11]), (5, [1, 2]), (6, [1, 2]), (7, [1, 2, 11]), (8, [1, 2]), (9, [1, 2]), (10, [1, 2, 11]), (11, [1, 2, 11]), (12, [1, 2]), (13, [1, 2]), (14, [1, 2, 11]), (15, [1, 2]), (16, [1, 2]), (17, [1, 2, 3]), (18, [2, 3, 77, 78, 79]), (19, [2, 3, 77, 78, 79]), (20, [2, 3, 5, 77, 78, 79]), (21, [2, 3, 77, 78, 79]), (22, [2, 3]), (23, [1, 2, 11]), (24, [1, 2]), (25, [1, 2]), (26, [1, 2, 11]), (27, [1, 2]), (28, [1, 2]), (29, [1, 2, 3]), (30, [2, 3, 127, 128, 129]), (31, [2, 3, 127, 128, 129]), (32, [2, 3, 7, 127, 128, 129]), (33, [2, 3, 127, 128, 129]), (34, [2, 3]), (35, [1, 2, 11]), (36, [1, 2]), (37, [1, 2]), (38, [1, 2, 3]), (39, [2, 11]), (40, [2, 11]), (41, [2, 11]), (42, [2]), (43, [2])] i).getD []
  boxes i := (assoc [(0, []), (1, [1, 2]), (2, [1, 2]), (3, [1, 2]), (4, [1, 2]), (5, [1, 2]), (6, [1, 2]), (7, [1, 2]), (8, [1, 2]), (9, [1, 2]), (10, [1, 2]), (11, [1, 2]), (12, [1, 2]), (13, [1, 2]), (14, [1, 2]), (15, [1, 2]), (16, [1, 2]), (17, [1, 2]), (18, [2]), (19, [2]), (20, [2]), (21, [2]), (22, [2]), (23, [1, 2]), (24, [1, 2]), (25, [1, 2]), (26, [1, 2]), (27, [1, 2]), (28, [1, 2]), (29, [1, 2]), (30, [2]), (31, [2]), (32, [2, 7]), (33, [2]), (34, [2]), (35, [1, 2]), (36, [1, 2]), (37, [1, 2]), (38, [1, 2]), (39, [2]), (40, [2]), (41, [2]), (42, [2]), (43, [2])] i).getD []
  tk i := (assoc [] i).getD []
  n := 197
  labelR l := (assoc [] l).getD 0
  loops := assoc [(18, print_kinds_l18_s k), (30, print_kinds_l30_s k)]
  labels := assoc []
  joins := assoc [(5, print_kinds_j5_s k), (12, print_kinds_j12_s k), (17, print_kinds_j17_s k), (29, print_kinds_j29_s k), (38, print_kinds_j38_s k), (14, print_kinds_j14_s k), (7, print_kinds_j7_s k)]
  xl i e := match e with
    | .nxt => assoc [(14, ([2], [2])), (7, ([2], [2]))] i
    | .ret => assoc [(5, ([2, 3], [2])), (12, ([2, 3], [2])), (17, ([2, 3], [2])), (29, ([2, 3], [2])), (38, ([2, 3], [2])), (14, ([2, 3], [2])), (7, ([2, 3], [2]))] i
    | .exit j => (assoc [(18, [(1, ([2, 3], [2]))]), (30, [(3, ([2, 3], [2]))])] i).bind fun l => assoc l j
    | .goto j => (assoc [] i).bind fun l => assoc l j
noncomputable def print_kinds_L : List Code := selI [18, 30] (loopsOf print_kinds_code)
noncomputable def print_kinds_J : List Code := selI [5, 12, 17, 29, 38, 14, 7] (joinsOf print_kinds_code)
noncomputable def print_kinds_S : List Code := scopesOf print_kinds_code
theorem print_kinds_l18_eq0 {ρ : Type} (k : Nat) (K : Ex → St UU → Option ρ) : ∀ (n : Nat) (v : Bool × (List (List T25)) × Int × Int × S60), iterK UX (fun s => s.at (print_kinds_cfg (ρ := ρ) k).live (print_kinds_cfg (ρ := ρ) k).boxes (some 18)) (exec UX (print_kinds_cfg k) (print_kinds_G k) (print_kinds_L.getD 0 .skip)) n ⟨[(2, .ptr 2 0), (3, .pv (.bool v.1)), (77, .pv (.typ (.ll25 v.2.1))), (78, .pv (.int .i64 v.2.2.1)), (79, .pv (.int .i64 v.2.2.2.1))], [(2, [.pv (.int .i64 v.2.2.2.2.f0), .pv (.str v.2.2.2.2.f1), .pv (.str v.2.2.2.2.f2), .pv (.bool v.2.2.2.2.f3), .pv (.typ (.l113 v.2.2.2.2.f4)), .pv (.typ (.ls v.2.2.2.2.f5)), .pv (.typ (.ll25 v.2.2.2.2.f6)), .pv (.typ (.l90 v.2.2.2.2.f7)), .pv (.typ (.ls v.2.2.2.2.f8)), .pv (.bool v.2.2.2.2.f9), .pv (.typ (.l25 v.2.2.2.2.f10)), .pv (.typ (.l25 v.2.2.2.2.f11)), .pv (.typ (.l106 v.2.2.2.2.f12))])]⟩ (nrmK UX (print_kinds_cfg k) 18 K) = print_kinds_l18 k (fun ok3 rest2 => K (.exit 1) ⟨[(2, .ptr 2 0), (3, .pv (.bool ok3))], [(2, [.pv (.int .i64 rest2.f0), .pv (.str rest2.f1), .pv (.str rest2.f2), .pv (.bool rest2.f3), .pv (.typ (.l113 rest2.f4)), .pv (.typ (.ls rest2.f5)), .pv (.typ (.ll25 rest2.f6)), .pv (.typ (.l90 rest2.f7)), .pv (.typ (.ls rest2.f8)), .pv (.bool rest2.f9), .pv (.typ (.l25 rest2.f10)), .pv (.typ (.l25 rest2.f11)), .pv (.typ (.l106 rest2.f12))])]⟩) n v.1 v.2.1 v.2.2.1 v.2.2.2.1 v.2.2.2.2 :=
  iter_rec (X := UX) (fun v => ⟨[(2, .ptr 2 0), (3, .pv (.bool v.1)), (77, .pv (.typ (.ll25 v.2.1))), (78, .pv (.int .i64 v.2.2.1)), (79, .pv (.int .i64 v.2.2.2.1))], [(2, [.pv (.int .i64 v.2.2.2.2.f0), .pv (.str v.2.2.2.2.f1), .pv (.str v.2.2.2.2.f2), .pv (.bool v.2.2.2.2.f3), .pv (.typ (.l113 v.2.2.2.2.f4)), .pv (.typ (.ls v.2.2.2.2.f5)), .pv (.typ (.ll25 v.2.2.2.2.f6)), .pv (.typ (.l90 v.2.2.2.2.f7)), .pv (.typ (.ls v.2.2.2.2.f8)), .pv (.bool v.2.2.2.2.f9), .pv (.typ (.l25 v.2.2.2.2.f10)), .pv (.typ (.l25 v.2.2.2.2.f11)), .pv (.typ (.l106 v.2.2.2.2.f12))])]⟩) (fun rec v => print_kinds_l18_b k (fun ok3 rest2 => K (.exit 1) ⟨[(2, .ptr 2 0), (3, .pv (.bool ok3))], [(2, [.pv (.int .i64 rest2.f0), .pv (.str rest2.f1), .pv (.str rest2.f2), .pv (.bool rest2.f3), .pv (.typ (.l113 rest2.f4)), .pv (.typ (.ls rest2.f5)), .pv (.typ (.ll25 rest2.f6)), .pv (.typ (.l90 rest2.f7)), .pv (.typ (.ls rest2.f8)), .pv (.bool rest2.f9), .pv (.typ (.l25 rest2.f10)), .pv (.typ (.l25 rest2.f11)), .pv (.typ (.l106 rest2.f12))])]⟩) (fun ok3 t77 t78 t79 rest2 => rec (ok3, t77, t78, t79, rest2)) v.1 v.2.1 v.2.2.1 v.2.2.2.1 v.2.2.2.2) (fun n v => print_kinds_l18 k (fun ok3 rest2 => K (.exit 1) ⟨[(2, .ptr 2 0), (3, .pv (.bool ok3))], [(2, [.pv (.int .i64 rest2.f0), .pv (.str rest2.f1), .pv (.str rest2.f2), .pv (.bool rest2.f3), .pv (.typ (.l113 rest2.f4)), .pv (.typ (.ls rest2.f5)), .pv (.typ (.ll25 rest2.f6)), .pv (.typ (.l90 rest2.f7)), .pv (.typ (.ls rest2.f8)), .pv (.bool rest2.f9), .pv (.typ (.l25 rest2.f10)), .pv (.typ (.l25 rest2.f11)), .pv (.typ (.l106 rest2.f12))])]⟩) n v.1 v.2.1 v.2.2.1 v.2.2.2.1 v.2.2.2.2) (fun n v => by kernel_rfl) (fun _ => rfl) (fun _ _ => rfl)
theorem print_kinds_l18_ok0 {ρ : Type} (k : Nat) : IterOK UX (print_kinds_cfg (ρ := ρ) k) (print_kinds_G k) (print_kinds_L.getD 0 .skip) 18 (print_kinds_l18_s k) := by
  intro s K r h
  obtain ⟨env, hp⟩ := s
  unfold print_kinds_l18_s at h
  replace h := popS_inv h; obtain ⟨v1, e2, rfl, h⟩ := h
  replace h := asP_inv h; obtain ⟨rfl, h⟩ := h
  replace h := popS_inv h; obtain ⟨v3, e4, rfl, h⟩ := h
  replace h := asB_inv h; obtain ⟨ok3, rfl, h⟩ := h
  replace h := popS_inv h; obtain ⟨v5, e6, rfl, h⟩ := h
  replace h := as_ll25_inv h; obtain ⟨t77, rfl, h⟩ := h
  replace h := popS_inv h; obtain ⟨v7, e8, rfl, h⟩ := h
  replace h := asI_inv h; obtain ⟨t78, rfl, h⟩ := h
  replace h := popS_inv h; obtain ⟨v9, e10, rfl, h⟩ := h
  replace h := asI_inv h; obtain ⟨t79, rfl, h⟩ := h
  replace h := popN_inv h; obtain ⟨rfl, h⟩ := h
  replace h := popB_inv h; obtain ⟨c11, e12, rfl, h⟩ := h
  replace h := popA_inv h; obtain ⟨v13, c14, rfl, h⟩ := h
  replace h := asI_inv h; obtain ⟨z15, rfl, h⟩ := h
  replace h := popA_inv h; obtain ⟨v16, c17, rfl, h⟩ := h
  replace h := asS_inv h; obtain ⟨z18, rfl, h⟩ := h
  replace h := popA_inv h; obtain ⟨v19, c20, rfl, h⟩ := h
  replace h := asS_inv h; obtain ⟨z21, rfl, h⟩ := h
  replace h := popA_inv h; obtain ⟨v22, c23, rfl, h⟩ := h
  replace h := asB_inv h; obtain ⟨z24, rfl, h⟩ := h
  replace h := popA_inv h; obtain ⟨v25, c26, rfl, h⟩ := h
  replace h := as_l113_inv h; obtain ⟨z27, rfl, h⟩ := h
  replace h := popA_inv h; obtain ⟨v28, c29, rfl, h⟩ := h
  replace h := as_ls_inv h; obtain ⟨z30, rfl, h⟩ := h
  replace h := popA_inv h; obtain ⟨v31, c32, rfl, h⟩ := h
  replace h := as_ll25_inv h; obtain ⟨z33, rfl, h⟩ := h
  replace h := popA_inv h; obtain ⟨v34, c35, rfl, h⟩ := h
  replace h := as_l90_inv h; obtain ⟨z36, rfl, h⟩ := h
  replace h := popA_inv h; obtain ⟨v37, c38, rfl, h⟩ := h
  replace h := as_ls_inv h; obtain ⟨z39, rfl, h⟩ := h
  replace h := popA_inv h; obtain ⟨v40, c41, rfl, h⟩ := h
  replace h := asB_inv h; obtain ⟨z42, rfl, h⟩ := h
  replace h := popA_inv h; obtain ⟨v43, c44, rfl, h⟩ := h
  replace h := as_l25_inv h; obtain ⟨z45, rfl, h⟩ := h
  replace h := popA_inv h; obtain ⟨v46, c47, rfl, h⟩ := h
  replace h := as_l25_inv h; obtain ⟨z48, rfl, h⟩ := h
  replace h := popA_inv h; obtain ⟨v49, c50, rfl, h⟩ := h
  replace h := as_l106_inv h; obtain ⟨z51, rfl, h⟩ := h
  replace h := popN_inv h; obtain ⟨rfl, h⟩ := h
  replace h := popN_inv h; obtain ⟨rfl, h⟩ := h
  exact ⟨k, (print_kinds_l18_eq0 k K k (ok3, t77, t78, t79, (⟨z15, z18, z21, z24, z27, z30, z33, z36, z39, z42, z45, z48, z51⟩ : S60))).trans h⟩
theorem print_kinds_l30_eq1 {ρ : Type} (k : Nat) (K : Ex → St UU → Option ρ) : ∀ (n : Nat) (v : Bool × (List S90) × Int × Int × S60), iterK UX (fun s => s.at (print_kinds_cfg (ρ := ρ) k).live (print_kinds_cfg (ρ := ρ) k).boxes (some 30)) (exec UX (print_kinds_cfg k) (print_kinds_G k) (print_kinds_L.getD 1 .skip)) n ⟨[(2, .ptr 2 0), (3, .pv (.bool v.1)), (127, .pv (.typ (.l90 v.2.1))), (128, .pv (.int .i64 v.2.2.1)), (129, .pv (.int .i64 v.2.2.2.1))], [(2, [.pv (.int .i64 v.2.2.2.2.f0), .pv (.str v.2.2.2.2.f1), .pv (.str v.2.2.2.2.f2), .pv (.bool v.2.2.2.2.f3), .pv (.typ (.l113 v.2.2.2.2.f4)), .pv (.typ (.ls v.2.2.2.2.f5)), .pv (.typ (.ll25 v.2.2.2.2.f6)), .pv (.typ (.l90 v.2.2.2.2.f7)), .pv (.typ (.ls v.2.2.2.2.f8)), .pv (.bool v.2.2.2.2.f9), .pv (.typ (.l25 v.2.2.2.2.f10)), .pv (.typ (.l25 v.2.2.2.2.f11)), .pv (.typ (.l106 v.2.2.2.2.f12))])]⟩ (nrmK UX (print_kinds_cfg k) 30 K) = print_kinds_l30 k (fun ok3 rest2 => K (.exit 3) ⟨[(2, .ptr 2 0), (3, .pv (.bool ok3))], [(2, [.pv (.int .i64 rest2.f0), .pv (.str rest2.f1), .pv (.str rest2.f2), .pv (.bool rest2.f3), .pv (.typ (.l113 rest2.f4)), .pv (.typ (.ls rest2.f5)), .pv (.typ (.ll25 rest2.f6)), .pv (.typ (.l90 rest2.f7)), .pv (.typ (.ls rest2.f8)), .pv (.bool rest2.f9), .pv (.typ (.l25 rest2.f10)), .pv (.typ (.l25 rest2.f11)), .pv (.typ (.l106 rest2.f12))])]⟩) n v.1 v.2.1 v.2.2.1 v.2.2.2.1 v.2.2.2.2 :=
  iter_rec (X := UX) (fun v => ⟨[(2, .ptr 2 0), (3, .pv (.bool v.1)), (127, .pv (.typ (.l90 v.2.1))), (128, .pv (.int .i64 v.2.2.1)), (129, .pv (.int .i64 v.2.2.2.1))], [(2, [.pv (.int .i64 v.2.2.2.2.f0), .pv (.str v.2.2.2.2.f1), .pv (.str v.2.2.2.2.f2), .pv (.bool v.2.2.2.2.f3), .pv (.typ (.l113 v.2.2.2.2.f4)), .pv (.typ (.ls v.2.2.2.2.f5)), .pv (.typ (.ll25 v.2.2.2.2.f6)), .pv (.typ (.l90 v.2.2.2.2.f7)), .pv (.typ (.ls v.2.2.2.2.f8)), .pv (.bool v.2.2.2.2.f9), .pv (.typ (.l25 v.2.2.2.2.f10)), .pv (.typ (.l25 v.2.2.2.2.f11)), .pv (.typ (.l106 v.2.2.2.2.f12))])]⟩) (fun rec v => print_kinds_l30_b k (fun ok3 rest2 => K (.exit 3) ⟨[(2, .ptr 2 0), (3, .pv (.bool ok3))], [(2, [.pv (.int .i64 rest2.f0), .pv (.str rest2.f1), .pv (.str rest2.f2), .pv (.bool rest2.f3), .pv (.typ (.l113 rest2.f4)), .pv (.typ (.ls rest2.f5)), .pv (.typ (.ll25 rest2.f6)), .pv (.typ (.l90 rest2.f7)), .pv (.typ (.ls rest2.f8)), .pv (.bool rest2.f9), .pv (.typ (.l25 rest2.f10)), .pv (.typ (.l25 rest2.f11)), .pv (.typ (.l106 rest2.f12))])]⟩) (fun ok3 t127 t128 t129 rest2 => rec (ok3, t127, t128, t129, rest2)) v.1 v.2.1 v.2.2.1 v.2.2.2.1 v.2.2.2.2) (fun n v => print_kinds_l30 k (fun ok3 rest2 => K (.exit 3) ⟨[(2, .ptr 2 0), (3, .pv (.bool ok3))], [(2, [.pv (.int .i64 rest2.f0), .pv (.str rest2.f1), .pv (.str rest2.f2), .pv (.bool rest2.f3), .pv (.typ (.l113 rest2.f4)), .pv (.typ (.ls rest2.f5)), .pv (.typ (.ll25 rest2.f6)), .pv (.typ (.l90 rest2.f7)), .pv (.typ (.ls rest2.f8)), .pv (.bool rest2.f9), .pv (.typ (.l25 rest2.f10)), .pv (.typ (.l25 rest2.f11)), .pv (.typ (.l106 rest2.f12))])]⟩) n v.1 v.2.1 v.2.2.1 v.2.2.2.1 v.2.2.2.2) (fun n v => by kernel_rfl) (fun _ => rfl) (fun _ _ => rfl)
theorem print_kinds_l30_ok1 {ρ : Type} (k : Nat) : IterOK UX (print_kinds_cfg (ρ := ρ) k) (print_kinds_G k) (print_kinds_L.getD 1 .skip) 30 (print_kinds_l30_s k) := by
  intro s K r h
  obtain ⟨env, hp⟩ := s
  unfold print_kinds_l30_s at h
  replace h := popS_inv h; obtain ⟨v1, e2, rfl, h⟩ := h
  replace h := asP_inv h; obtain ⟨rfl, h⟩ := h
  replace h := popS_inv h; obtain ⟨v3, e4, rfl, h⟩ := h
  replace h := asB_inv h; obtain ⟨ok3, rfl, h⟩ := h
  replace h := popS_inv h; obtain ⟨v5, e6, rfl, h⟩ := h
  replace h := as_l90_inv h; obtain ⟨t127, rfl, h⟩ := h
  replace h := popS_inv h; obtain ⟨v7, e8, rfl, h⟩ := h
  replace h := asI_inv h; obtain ⟨t128, rfl, h⟩ := h
  replace h := popS_inv h; obtain ⟨v9, e10, rfl, h⟩ := h
  replace h := asI_inv h; obtain ⟨t129, rfl, h⟩ := h
  replace h := popN_inv h; obtain ⟨rfl, h⟩ := h
  replace h := popB_inv h; obtain ⟨c11, e12, rfl, h⟩ := h
  replace h := popA_inv h; obtain ⟨v13, c14, rfl, h⟩ := h
  replace h := asI_inv h; obtain ⟨z15, rfl, h⟩ := h
  replace h := popA_inv h; obtain ⟨v16, c17, rfl, h⟩ := h
  replace h := asS_inv h; obtain ⟨z18, rfl, h⟩ := h
  replace h := popA_inv h; obtain ⟨v19, c20, rfl, h⟩ := h
  replace h := asS_inv h; obtain ⟨z21, rfl, h⟩ := h
  replace h := popA_inv h; obtain ⟨v22, c23, rfl, h⟩ := h
  replace h := asB_inv h; obtain ⟨z24, rfl, h⟩ := h
  replace h := popA_inv h; obtain ⟨v25, c26, rfl, h⟩ := h
  replace h := as_l113_inv h; obtain ⟨z27, rfl, h⟩ := h
  replace h := popA_inv h; obtain ⟨v28, c29, rfl, h⟩ := h
  replace h := as_ls_inv h; obtain ⟨z30, rfl, h⟩ := h
  replace h := popA_inv h; obtain ⟨v31, c32, rfl, h⟩ := h
  replace h := as_ll25_inv h; obtain ⟨z33, rfl, h⟩ := h
  replace h := popA_inv h; obtain ⟨v34, c35, rfl, h⟩ := h
  replace h := as_l90_inv h; obtain ⟨z36, rfl, h⟩ := h
  replace h := popA_inv h; obtain ⟨v37, c38, rfl, h⟩ := h
  replace h := as_ls_inv h; obtain ⟨z39, rfl, h⟩ := h
  replace h := popA_inv h; obtain ⟨v40, c41, rfl, h⟩ := h
  replace h := asB_inv h; obtain ⟨z42, rfl, h⟩ := h
  replace h := popA_inv h; obtain ⟨v43, c44, rfl, h⟩ := h
  replace h := as_l25_inv h; obtain ⟨z45, rfl, h⟩ := h
  replace h := popA_inv h; obtain ⟨v46, c47, rfl, h⟩ := h
  replace h := as_l25_inv h; obtain ⟨z48, rfl, h⟩ := h
  replace h := popA_inv h; obtain ⟨v49, c50, rfl, h⟩ := h
  replace h := as_l106_inv h; obtain ⟨z51, rfl, h⟩ := h
  replace h := popN_inv h; obtain ⟨rfl, h⟩ := h
  replace h := popN_inv h; obtain ⟨rfl, h⟩ := h
  exact ⟨k, (print_kinds_l30_eq1 k K k (ok3, t127, t128, t129, (⟨z15, z18, z21, z24, z27, z30, z33, z36, z39, z42, z45, z48, z51⟩ : S60))).trans h⟩
theorem print_kinds_j5_eq0 {ρ : Type} (k : Nat) (K : Ex → St UU → Option ρ) (s1 : S60) (rest2 : S60) : exec UX (print_kinds_cfg k) (print_kinds_G k) (print_kinds_J.getD 0 .skip) ⟨[(1, .ptr 1 0), (2, .ptr 2 0)], [(1, [.pv (.int .i64 s1.f0), .pv (.str s1.f1), .pv (.str s1.f2), .pv (.bool s1.f3), .pv (.typ (.l113 s1.f4)), .pv (.typ (.ls s1.f5)), .pv (.typ (.ll25 s1.f6)), .pv (.typ (.l90 s1.f7)), .pv (.typ (.ls s1.f8)), .pv (.bool s1.f9), .pv (.typ (.l25 s1.f10)), .pv (.typ (.l25 s1.f11)), .pv (.typ (.l106 s1.f12))]), (2, [.pv (.int .i64 rest2.f0), .pv (.str rest2.f1), .pv (.str rest2.f2), .pv (.bool rest2.f3), .pv (.typ (.l113 rest2.f4)), .pv (.typ (.ls rest2.f5)), .pv (.typ (.ll25 rest2.f6)), .pv (.typ (.l90 rest2.f7)), .pv (.typ (.ls rest2.f8)), .pv (.bool rest2.f9), .pv (.typ (.l25 rest2.f10)), .pv (.typ (.l25 rest2.f11)), .pv (.typ (.l106 rest2.f12))])]⟩ (nrmK UX (print_kinds_cfg k) 5 K) = print_kinds_j5 k (fun ok3 rest2 => K .ret ⟨[(2, .ptr 2 0), (3, .pv (.bool ok3))], [(2, [.pv (.int .i64 rest2.f0), .pv (.str rest2.f1), .pv (.str rest2.f2), .pv (.bool rest2.f3), .pv (.typ (.l113 rest2.f4)), .pv (.typ (.ls rest2.f5)), .pv (.typ (.ll25 rest2.f6)), .pv (.typ (.l90 rest2.f7)), .pv (.typ (.ls rest2.f8)), .pv (.bool rest2.f9), .pv (.typ (.l25 rest2.f10)), .pv (.typ (.l25 rest2.f11)), .pv (.typ (.l106 rest2.f12))])]⟩) s1 rest2 := by kernel_rfl
theorem print_kinds_j5_ok0 {ρ : Type} (k : Nat) : JoinOK UX (print_kinds_cfg (ρ := ρ) k) (print_kinds_G k) (print_kinds_J.getD 0 .skip) 5 (print_kinds_j5_s k) := by
  intro s K r h
  obtain ⟨env, hp⟩ := s
  unfold print_kinds_j5_s at h
  replace h := popS_inv h; obtain ⟨v1, e2, rfl, h⟩ := h
  replace h := asP_inv h; obtain ⟨rfl, h⟩ := h
  replace h := popS_inv h; obtain ⟨v3, e4, rfl, h⟩ := h
  replace h := asP_inv h; obtain ⟨rfl, h⟩ := h
  replace h := popN_inv h; obtain ⟨rfl, h⟩ := h
  replace h := popB_inv h; obtain ⟨c5, e6, rfl, h⟩ := h
  replace h := popA_inv h; obtain ⟨v7, c8, rfl, h⟩ := h
  replace h := asI_inv h; obtain ⟨z9, rfl, h⟩ := h
  replace h := popA_inv h; obtain ⟨v10, c11, rfl, h⟩ := h
  replace h := asS_inv h; obtain ⟨z12, rfl, h⟩ := h
  replace h := popA_inv h; obtain ⟨v13, c14, rfl, h⟩ := h
  replace h := asS_inv h; obtain ⟨z15, rfl, h⟩ := h
  replace h := popA_inv h; obtain ⟨v16, c17, rfl, h⟩ := h
  replace h := asB_inv h; obtain ⟨z18, rfl, h⟩ := h
  replace h := popA_inv h; obtain ⟨v19, c20, rfl, h⟩ := h
  replace h := as_l113_inv h; obtain ⟨z21, rfl, h⟩ := h
  replace h := popA_inv h; obtain ⟨v22, c23, rfl, h⟩ := h
  replace h := as_ls_inv h; obtain ⟨z24, rfl, h⟩ := h
  replace h := popA_inv h; obtain ⟨v25, c26, rfl, h⟩ := h
  replace h := as_ll25_inv h; obtain ⟨z27, rfl, h⟩ := h
  replace h := popA_inv h; obtain ⟨v28, c29, rfl, h⟩ := h
  replace h := as_l90_inv h; obtain ⟨z30, rfl, h⟩ := h
  replace h := popA_inv h; obtain ⟨v31, c32, rfl, h⟩ := h
  replace h := as_ls_inv h; obtain ⟨z33, rfl, h⟩ := h
  replace h := popA_inv h; obtain ⟨v34, c35, rfl, h⟩ := h
  replace h := asB_inv h; obtain ⟨z36, rfl, h⟩ := h
  replace h := popA_inv h; obtain ⟨v37, c38, rfl, h⟩ := h
  replace h := as_l25_inv h; obtain ⟨z39, rfl, h⟩ := h
  replace h := popA_inv h; obtain ⟨v40, c41, rfl, h⟩ := h
  replace h := as_l25_inv h; obtain ⟨z42, rfl, h⟩ := h
  replace h := popA_inv h; obtain ⟨v43, c44, rfl, h⟩ := h
  replace h := as_l106_inv h; obtain ⟨z45, rfl, h⟩ := h
  replace h := popN_inv h; obtain ⟨rfl, h⟩ := h
  replace h := popB_inv h; obtain ⟨c46, e47, rfl, h⟩ := h
  replace h := popA_inv h; obtain ⟨v48, c49, rfl, h⟩ := h
  replace h := asI_inv h; obtain ⟨z50, rfl, h⟩ := h
  replace h := popA_inv h; obtain ⟨v51, c52, rfl, h⟩ := h
  replace h := asS_inv h; obtain ⟨z53, rfl, h⟩ := h
  replace h := popA_inv h; obtain ⟨v54, c55, rfl, h⟩ := h
  replace h := asS_inv h; obtain ⟨z56, rfl, h⟩ := h
  replace h := popA_inv h; obtain ⟨v57, c58, rfl, h⟩ := h
  replace h := asB_inv h; obtain ⟨z59, rfl, h⟩ := h
  replace h := popA_inv h; obtain ⟨v60, c61, rfl, h⟩ := h
  replace h := as_l113_inv h; obtain ⟨z62, rfl, h⟩ := h
  replace h := popA_inv h; obtain ⟨v63, c64, rfl, h⟩ := h
  replace h := as_ls_inv h; obtain ⟨z65, rfl, h⟩ := h
  replace h := popA_inv h; obtain ⟨v66, c67, rfl, h⟩ := h
  replace h := as_ll25_inv h; obtain ⟨z68, rfl, h⟩ := h
  replace h := popA_inv h; obtain ⟨v69, c70, rfl, h⟩ := h
  replace h := as_l90_inv h; obtain ⟨z71, rfl, h⟩ := h
  replace h := popA_inv h; obtain ⟨v72, c73, rfl, h⟩ := h
  replace h := as_ls_inv h; obtain ⟨z74, rfl, h⟩ := h
  replace h := popA_inv h; obtain ⟨v75, c76, rfl, h⟩ := h
  replace h := asB_inv h; obtain ⟨z77, rfl, h⟩ := h
  replace h := popA_inv h; obtain ⟨v78, c79, rfl, h⟩ := h
  replace h := as_l25_inv h; obtain ⟨z80, rfl, h⟩ := h
  replace h := popA_inv h; obtain ⟨v81, c82, rfl, h⟩ := h
  replace h := as_l25_inv h; obtain ⟨z83, rfl, h⟩ := h
  replace h := popA_inv h; obtain ⟨v84, c85, rfl, h⟩ := h
  replace h := as_l106_inv h; obtain ⟨z86, rfl, h⟩ := h
  replace h := popN_inv h; obtain ⟨rfl, h⟩ := h
  replace h := popN_inv h; obtain ⟨rfl, h⟩ := h
  exact (print_kinds_j5_eq0 k K (⟨z9, z12, z15, z18, z21, z24, z27, z30, z33, z36, z39, z42, z45⟩ : S60) (⟨z50, z53, z56, z59, z62, z65, z68, z71, z74, z77, z80, z83, z86⟩ : S60)).trans h
theorem print_kinds_j7_eq1 {ρ : Type} (k : Nat) (K : Ex → St UU → Option ρ) (t11 : Int) (s1 : S60) (rest2 : S60) : exec UX (print_kinds_cfg k) (print_kinds_G k) (print_kinds_J.getD 1 .skip) ⟨[(1, .ptr 1 0), (2, .ptr 2 0), (11, .pv (.int .i64 t11))], [(1, [.pv (.int .i64 s1.f0), .pv (.str s1.f1), .pv (.str s1.f2), .pv (.bool s1.f3), .pv (.typ (.l113 s1.f4)), .pv (.typ (.ls s1.f5)), .pv (.typ (.ll25 s1.f6)), .pv (.typ (.l90 s1.f7)), .pv (.typ (.ls s1.f8)), .pv (.bool s1.f9), .pv (.typ (.l25 s1.f10)), .pv (.typ (.l25 s1.f11)), .pv (.typ (.l106 s1.f12))]), (2, [.pv (.int .i64 rest2.f0), .pv (.str rest2.f1), .pv (.str rest2.f2), .pv (.bool rest2.f3), .pv (.typ (.l113 rest2.f4)), .pv (.typ (.ls rest2.f5)), .pv (.typ (.ll25 rest2.f6)), .pv (.typ (.l90 rest2.f7)), .pv (.typ (.ls rest2.f8)), .pv (.bool rest2.f9), .pv (.typ (.l25 rest2.f10)), .pv (.typ (.l25 rest2.f11)), .pv (.typ (.l106 rest2.f12))])]⟩ (nrmK UX (print_kinds_cfg k) 7 K) = print_kinds_j7 k (fun ok3 rest2 => K .ret ⟨[(2, .ptr 2 0), (3, .pv (.bool ok3))], [(2, [.pv (.int .i64 rest2.f0), .pv (.str rest2.f1), .pv (.str rest2.f2), .pv (.bool rest2.f3), .pv (.typ (.l113 rest2.f4)), .pv (.typ (.ls rest2.f5)), .pv (.typ (.ll25 rest2.f6)), .pv (.typ (.l90 rest2.f7)), .pv (.typ (.ls rest2.f8)), .pv (.bool rest2.f9), .pv (.typ (.l25 rest2.f10)), .pv (.typ (.l25 rest2.f11)), .pv (.typ (.l106 rest2.f12))])]⟩) (fun rest2 => K .nxt ⟨[(2, .ptr 2 0)], [(2, [.pv (.int .i64 rest2.f0), .pv (.str rest2.f1), .pv (.str rest2.f2), .pv (.bool rest2.f3), .pv (.typ (.l113 rest2.f4)), .pv (.typ (.ls rest2.f5)), .pv (.typ (.ll25 rest2.f6)), .pv (.typ (.l90 rest2.f7)), .pv (.typ (.ls rest2.f8)), .pv (.bool rest2.f9), .pv (.typ (.l25 rest2.f10)), .pv (.typ (.l25 rest2.f11)), .pv (.typ (.l106 rest2.f12))])]⟩) t11 s1 rest2 := by kernel_rfl
theorem print_kinds_j7_ok1 {ρ : Type} (k : Nat) : JoinOK UX (print_kinds_cfg (ρ := ρ) k) (print_kinds_G k) (print_kinds_J.getD 1 .skip) 7 (print_kinds_j7_s k) := by
  intro s K r h
  obtain ⟨env, hp⟩ := s
  unfold print_kinds_j7_s at h
  replace h := popS_inv h; obtain ⟨v1, e2, rfl, h⟩ := h
  replace h := asP_inv h; obtain ⟨rfl, h⟩ := h
  replace h := popS_inv h; obtain ⟨v3, e4, rfl, h⟩ := h
  replace h := asP_inv h; obtain ⟨rfl, h⟩ := h
  replace h := popS_inv h; obtain ⟨v5, e6, rfl, h⟩ := h
  replace h := asI_inv h; obtain ⟨t11, rfl, h⟩ := h
  replace h := popN_inv h; obtain ⟨rfl, h⟩ := h
  replace h := popB_inv h; obtain ⟨c7, e8, rfl, h⟩ := h
  replace h := popA_inv h; obtain ⟨v9, c10, rfl, h⟩ := h
  replace h := asI_inv h; obtain ⟨z11, rfl, h⟩ := h
  replace h := popA_inv h; obtain ⟨v12, c13, rfl, h⟩ := h
  replace h := asS_inv h; obtain ⟨z14, rfl, h⟩ := h
  replace h := popA_inv h; obtain ⟨v15, c16, rfl, h⟩ := h
  replace h := asS_inv h; obtain ⟨z17, rfl, h⟩ := h
  replace h := popA_inv h; obtain ⟨v18, c19, rfl, h⟩ := h
  replace h := asB_inv h; obtain ⟨z20, rfl, h⟩ := h
  replace h := popA_inv h; obtain ⟨v21, c22, rfl, h⟩ := h
  replace h := as_l113_inv h; obtain ⟨z23, rfl, h⟩ := h
  replace h := popA_inv h; obtain ⟨v24, c25, rfl, h⟩ := h
  replace h := as_ls_inv h; obtain ⟨z26, rfl, h⟩ := h
  replace h := popA_inv h; obtain ⟨v27, c28, rfl, h⟩ := h
  replace h := as_ll25_inv h; obtain ⟨z29, rfl, h⟩ := h
  replace h := popA_inv h; obtain ⟨v30, c31, rfl, h⟩ := h
  replace h := as_l90_inv h; obtain ⟨z32, rfl, h⟩ := h
  replace h := popA_inv h; obtain ⟨v33, c34, rfl, h⟩ := h
  replace h := as_ls_inv h; obtain ⟨z35, rfl, h⟩ := h
  replace h := popA_inv h; obtain ⟨v36, c37, rfl, h⟩ := h
  replace h := asB_inv h; obtain ⟨z38, rfl, h⟩ := h
  replace h := popA_inv h; obtain ⟨v39, c40, rfl, h⟩ := h
  replace h := as_l25_inv h; obtain ⟨z41, rfl, h⟩ := h
  replace h := popA_inv h; obtain ⟨v42, c43, rfl, h⟩ := h
  replace h := as_l25_inv h; obtain ⟨z44, rfl, h⟩ := h
  replace h := popA_inv h; obtain ⟨v45, c46, rfl, h⟩ := h
  replace h := as_l106_inv h; obtain ⟨z47, rfl, h⟩ := h
  replace h := popN_inv h; obtain ⟨rfl, h⟩ := h
  replace h := popB_inv h; obtain ⟨c48, e49, rfl, h⟩ := h
  replace h := popA_inv h; obtain ⟨v50, c51, rfl, h⟩ := h
  replace h := asI_inv h; obtain ⟨z52, rfl, h⟩ := h
  replace h := popA_inv h; obtain ⟨v53, c54, rfl, h⟩ := h
  replace h := asS_inv h; obtain ⟨z55, rfl, h⟩ := h
  replace h := popA_inv h; obtain ⟨v56, c57, rfl, h⟩ := h
  replace h := asS_inv h; obtain ⟨z58, rfl, h⟩ := h
  replace h := popA_inv h; obtain ⟨v59, c60, rfl, h⟩ := h
  replace h := asB_inv h; obtain ⟨z61, rfl, h⟩ := h
  replace h := popA_inv h; obtain ⟨v62, c63, rfl, h⟩ := h
  replace h := as_l113_inv h; obtain ⟨z64, rfl, h⟩ := h
  replace h := popA_inv h; obtain ⟨v65, c66, rfl, h⟩ := h
  replace h := as_ls_inv h; obtain ⟨z67, rfl, h⟩ := h
  replace h := popA_inv h; obtain ⟨v68, c69, rfl, h⟩ := h
  replace h := as_ll25_inv h; obtain ⟨z70, rfl, h⟩ := h
  replace h := popA_inv h; obtain ⟨v71, c72, rfl, h⟩ := h
  replace h := as_l90_inv h; obtain ⟨z73, rfl, h⟩ := h
  replace h := popA_inv h; obtain ⟨v74, c75, rfl, h⟩ := h
  replace h := as_ls_inv h; obtain ⟨z76, rfl, h⟩ := h
  replace h := popA_inv h; obtain ⟨v77, c78, rfl, h⟩ := h
  replace h := asB_inv h; obtain ⟨z79, rfl, h⟩ := h
  replace h := popA_inv h; obtain ⟨v80, c81, rfl, h⟩ := h
  replace h := as_l25_inv h; obtain ⟨z82, rfl, h⟩ := h
  replace h := popA_inv h; obtain ⟨v83, c84, rfl, h⟩ := h
  replace h := as_l25_inv h; obtain ⟨z85, rfl, h⟩ := h
  replace h := popA_inv h; obtain ⟨v86, c87, rfl, h⟩ := h
  replace h := as_l106_inv h; obtain ⟨z88, rfl, h⟩ := h
  replace h := popN_inv h; obtain ⟨rfl, h⟩ := h
  replace h := popN_inv h; obtain ⟨rfl, h⟩ := h
  exact (print_kinds_j7_eq1 k K t11 (⟨z11, z14, z17, z20, z23, z26, z29, z32, z35, z38, z41, z44, z47⟩ : S60) (⟨z52, z55, z58, z61, z64, z67, z70, z73, z76, z79, z82, z85, z88⟩ : S60)).trans h
theorem print_kinds_j12_eq2 {ρ : Type} (k : Nat) (K : Ex → St UU → Option ρ) (s1 : S60) (rest2 : S60) : exec UX (print_kinds_cfg k) (print_kinds_G k) (print_kinds_J.getD 2 .skip) ⟨[(1, .ptr 1 0), (2, .ptr 2 0)], [(1, [.pv (.int .i64 s1.f0), .pv (.str s1.f1), .pv (.str s1.f2), .pv (.bool s1.f3), .pv (.typ (.l113 s1.f4)), .pv (.typ (.ls s1.f5)), .pv (.typ (.ll25 s1.f6)), .pv (.typ (.l90 s1.f7)), .pv (.typ (.ls s1.f8)), .pv (.bool s1.f9), .pv (.typ (.l25 s1.f10)), .pv (.typ (.l25 s1.f11)), .pv (.typ (.l106 s1.f12))]), (2, [.pv (.int .i64 rest2.f0), .pv (.str rest2.f1), .pv (.str rest2.f2), .pv (.bool rest2.f3), .pv (.typ (.l113 rest2.f4)), .pv (.typ (.ls rest2.f5)), .pv (.typ (.ll25 rest2.f6)), .pv (.typ (.l90 rest2.f7)), .pv (.typ (.ls rest2.f8)), .pv (.bool rest2.f9), .pv (.typ (.l25 rest2.f10)), .pv (.typ (.l25 rest2.f11)), .pv (.typ (.l106 rest2.f12))])]⟩ (nrmK UX (print_kinds_cfg k) 12 K) = print_kinds_j12 k (fun ok3 rest2 => K .ret ⟨[(2, .ptr 2 0), (3, .pv (.bool ok3))], [(2, [.pv (.int .i64 rest2.f0), .pv (.str rest2.f1), .pv (.str rest2.f2), .pv (.bool rest2.f3), .pv (.typ (.l113 rest2.f4)), .pv (.typ (.ls rest2.f5)), .pv (.typ (.ll25 rest2.f6)), .pv (.typ (.l90 rest2.f7)), .pv (.typ (.ls rest2.f8)), .pv (.bool rest2.f9), .pv (.typ (.l25 rest2.f10)), .pv (.typ (.l25 rest2.f11)), .pv (.typ (.l106 rest2.f12))])]⟩) s1 rest2 := by kernel_rfl
theorem print_kinds_j12_ok2 {ρ : Type} (k : Nat) : JoinOK UX (print_kinds_cfg (ρ := ρ) k) (print_kinds_G k) (print_kinds_J.getD 2 .skip) 12 (print_kinds_j12_s k) := by
  intro s K r h
  obtain ⟨env, hp⟩ := s
  unfold print_kinds_j12_s at h
  replace h := popS_inv h; obtain ⟨v1, e2, rfl, h⟩ := h
  replace h := asP_inv h; obtain ⟨rfl, h⟩ := h
  replace h := popS_inv h; obtain ⟨v3, e4, rfl, h⟩ := h
  replace h := asP_inv h; obtain ⟨rfl, h⟩ := h
  replace h := popN_inv h; obtain ⟨rfl, h⟩ := h
  replace h := popB_inv h; obtain ⟨c5, e6, rfl, h⟩ := h
  replace h := popA_inv h; obtain ⟨v7, c8, rfl, h⟩ := h
  replace h := asI_inv h; obtain ⟨z9, rfl, h⟩ := h
  replace h := popA_inv h; obtain ⟨v10, c11, rfl, h⟩ := h
  replace h := asS_inv h; obtain ⟨z12, rfl, h⟩ := h
  replace h := popA_inv h; obtain ⟨v13, c14, rfl, h⟩ := h
  replace h := asS_inv h; obtain ⟨z15, rfl, h⟩ := h
  replace h := popA_inv h; obtain ⟨v16, c17, rfl, h⟩ := h
  replace h := asB_inv h; obtain ⟨z18, rfl, h⟩ := h
  replace h := popA_inv h; obtain ⟨v19, c20, rfl, h⟩ := h
  replace h := as_l113_inv h; obtain ⟨z21, rfl, h⟩ := h
  replace h := popA_inv h; obtain ⟨v22, c23, rfl, h⟩ := h
  replace h := as_ls_inv h; obtain ⟨z24, rfl, h⟩ := h
  replace h := popA_inv h; obtain ⟨v25, c26, rfl, h⟩ := h
  replace h := as_ll25_inv h; obtain ⟨z27, rfl, h⟩ := h
  replace h := popA_inv h; obtain ⟨v28, c29, rfl, h⟩ := h
  replace h := as_l90_inv h; obtain ⟨z30, rfl, h⟩ := h
  replace h := popA_inv h; obtain ⟨v31, c32, rfl, h⟩ := h
  replace h := as_ls_inv h; obtain ⟨z33, rfl, h⟩ := h
  replace h := popA_inv h; obtain ⟨v34, c35, rfl, h⟩ := h
  replace h := asB_inv h; obtain ⟨z36, rfl, h⟩ := h
  replace h := popA_inv h; obtain ⟨v37, c38, rfl, h⟩ := h
  replace h := as_l25_inv h; obtain ⟨z39, rfl, h⟩ := h
  replace h := popA_inv h; obtain ⟨v40, c41, rfl, h⟩ := h
  replace h := as_l25_inv h; obtain ⟨z42, rfl, h⟩ := h
  replace h := popA_inv h; obtain ⟨v43, c44, rfl, h⟩ := h
  replace h := as_l106_inv h; obtain ⟨z45, rfl, h⟩ := h
  replace h := popN_inv h; obtain ⟨rfl, h⟩ := h
  replace h := popB_inv h; obtain ⟨c46, e47, rfl, h⟩ := h
  replace h := popA_inv h; obtain ⟨v48, c49, rfl, h⟩ := h
  replace h := asI_inv h; obtain ⟨z50, rfl, h⟩ := h
  replace h := popA_inv h; obtain ⟨v51, c52, rfl, h⟩ := h
  replace h := asS_inv h; obtain ⟨z53, rfl, h⟩ := h
  replace h := popA_inv h; obtain ⟨v54, c55, rfl, h⟩ := h
  replace h := asS_inv h; obtain ⟨z56, rfl, h⟩ := h
  replace h := popA_inv h; obtain ⟨v57, c58, rfl, h⟩ := h
  replace h := asB_inv h; obtain ⟨z59, rfl, h⟩ := h
  replace h := popA_inv h; obtain ⟨v60, c61, rfl, h⟩ := h
  replace h := as_l113_inv h; obtain ⟨z62, rfl, h⟩ := h
  replace h := popA_inv h; obtain ⟨v63, c64, rfl, h⟩ := h
  replace h := as_ls_inv h; obtain ⟨z65, rfl, h⟩ := h
  replace h := popA_inv h; obtain ⟨v66, c67, rfl, h⟩ := h
  replace h := as_ll25_inv h; obtain ⟨z68, rfl, h⟩ := h
  replace h := popA_inv h; obtain ⟨v69, c70, rfl, h⟩ := h
  replace h := as_l90_inv h; obtain ⟨z71, rfl, h⟩ := h
  replace h := popA_inv h; obtain ⟨v72, c73, rfl, h⟩ := h
  replace h := as_ls_inv h; obtain ⟨z74, rfl, h⟩ := h
  replace h := popA_inv h; obtain ⟨v75, c76, rfl, h⟩ := h
  replace h := asB_inv h; obtain ⟨z77, rfl, h⟩ := h
  replace h := popA_inv h; obtain ⟨v78, c79, rfl, h⟩ := h
  replace h := as_l25_inv h; obtain ⟨z80, rfl, h⟩ := h
  replace h := popA_inv h; obtain ⟨v81, c82, rfl, h⟩ := h
  replace h := as_l25_inv h; obtain ⟨z83, rfl, h⟩ := h
  replace h := popA_inv h; obtain ⟨v84, c85, rfl, h⟩ := h
  replace h := as_l106_inv h; obtain ⟨z86, rfl, h⟩ := h
  replace h := popN_inv h; obtain ⟨rfl, h⟩ := h
  replace h := popN_inv h; obtain ⟨rfl, h⟩ := h
  exact (print_kinds_j12_eq2 k K (⟨z9, z12, z15, z18, z21, z24, z27, z30, z33, z36, z39, z42, z45⟩ : S60) (⟨z50, z53, z56, z59, z62, z65, z68, z71, z74, z77, z80, z83, z86⟩ : S60)).trans h
theorem print_kinds_j14_eq3 {ρ : Type} (k : Nat) (K : Ex → St UU → Option ρ) (t11 : Int) (s1 : S60) (rest2 : S60) : exec UX (print_kinds_cfg k) (print_kinds_G k) (print_kinds_J.getD 3 .skip) ⟨[(1, .ptr 1 0), (2, .ptr 2 0), (11, .pv (.int .i64 t11))], [(1, [.pv (.int .i64 s1.f0), .pv (.str s1.f1), .pv (.str s1.f2), .pv (.bool s1.f3), .pv (.typ (.l113 s1.f4)), .pv (.typ (.ls s1.f5)), .pv (.typ (.ll25 s1.f6)), .pv (.typ (.l90 s1.f7)), .pv (.typ (.ls s1.f8)), .pv (.bool s1.f9), .pv (.typ (.l25 s1.f10)), .pv (.typ (.l25 s1.f11)), .pv (.typ (.l106 s1.f12))]), (2, [.pv (.int .i64 rest2.f0), .pv (.str rest2.f1), .pv (.str rest2.f2), .pv (.bool rest2.f3), .pv (.typ (.l113 rest2.f4)), .pv (.typ (.ls rest2.f5)), .pv (.typ (.ll25 rest2.f6)), .pv (.typ (.l90 rest2.f7)), .pv (.typ (.ls rest2.f8)), .pv (.bool rest2.f9), .pv (.typ (.l25 rest2.f10)), .pv (.typ (.l25 rest2.f11)), .pv (.typ (.l106 rest2.f12))])]⟩ (nrmK UX (print_kinds_cfg k) 14 K) = print_kinds_j14 k (fun ok3 rest2 => K .ret ⟨[(2, .ptr 2 0), (3, .pv (.bool ok3))], [(2, [.pv (.int .i64 rest2.f0), .pv (.str rest2.f1), .pv (.str rest2.f2), .pv (.bool rest2.f3), .pv (.typ (.l113 rest2.f4)), .pv (.typ (.ls rest2.f5)), .pv (.typ (.ll25 rest2.f6)), .pv (.typ (.l90 rest2.f7)), .pv (.typ (.ls rest2.f8)), .pv (.bool rest2.f9), .pv (.typ (.l25 rest2.f10)), .pv (.typ (.l25 rest2.f11)), .pv (.typ (.l106 rest2.f12))])]⟩) (fun rest2 => K .nxt ⟨[(2, .ptr 2 0)], [(2, [.pv (.int .i64 rest2.f0), .pv (.str rest2.f1), .pv (.str rest2.f2), .pv (.bool rest2.f3), .pv (.typ (.l113 rest2.f4)), .pv (.typ (.ls rest2.f5)), .pv (.typ (.ll25 rest2.f6)), .pv (.typ (.l90 rest2.f7)), .pv (.typ (.ls rest2.f8)), .pv (.bool rest2.f9), .pv (.typ (.l25 rest2.f10)), .pv (.typ (.l25 rest2.f11)), .pv (.typ (.l106 rest2.f12))])]⟩) t11 s1 rest2 := by kernel_rfl
theorem print_kinds_j14_ok3 {ρ : Type} (k : Nat) : JoinOK UX (print_kinds_cfg (ρ := ρ) k) (print_kinds_G k) (print_kinds_J.getD 3 .skip) 14 (print_kinds_j14_s k) := by
  intro s K r h
  obtain ⟨env, hp⟩ := s
  unfold print_kinds_j14_s at h
  replace h := popS_inv h; obtain ⟨v1, e2, rfl, h⟩ := h
  replace h := asP_inv h; obtain ⟨rfl, h⟩ := h
  replace h := popS_inv h; obtain ⟨v3, e4, rfl, h⟩ := h
  replace h := asP_inv h; obtain ⟨rfl, h⟩ := h
  replace h := popS_inv h; obtain ⟨v5, e6, rfl, h⟩ := h
  replace h := asI_inv h; obtain ⟨t11, rfl, h⟩ := h
  replace h := popN_inv h; obtain ⟨rfl, h⟩ := h
  replace h := popB_inv h; obtain ⟨c7, e8, rfl, h⟩ := h
  replace h := popA_inv h; obtain ⟨v9, c10, rfl, h⟩ := h
  replace h := asI_inv h; obtain ⟨z11, rfl, h⟩ := h
  replace h := popA_inv h; obtain ⟨v12, c13, rfl, h⟩ := h
  replace h := asS_inv h; obtain ⟨z14, rfl, h⟩ := h
  replace h := popA_inv h; obtain ⟨v15, c16, rfl, h⟩ := h
  replace h := asS_inv h; obtain ⟨z17, rfl, h⟩ := h
  replace h := popA_inv h; obtain ⟨v18, c19, rfl, h⟩ := h
  replace h := asB_inv h; obtain ⟨z20, rfl, h⟩ := h
  replace h := popA_inv h; obtain ⟨v21, c22, rfl, h⟩ := h
  replace h := as_l113_inv h; obtain ⟨z23, rfl, h⟩ := h
  replace h := popA_inv h; obtain ⟨v24, c25, rfl, h⟩ := h
  replace h := as_ls_inv h; obtain ⟨z26, rfl, h⟩ := h
  replace h := popA_inv h; obtain ⟨v27, c28, rfl, h⟩ := h
  replace h := as_ll25_inv h; obtain ⟨z29, rfl, h⟩ := h
  replace h := popA_inv h; obtain ⟨v30, c31, rfl, h⟩ := h
  replace h := as_l90_inv h; obtain ⟨z32, rfl, h⟩ := h
  replace h := popA_inv h; obtain ⟨v33, c34, rfl, h⟩ := h
  replace h := as_ls_inv h; obtain ⟨z35, rfl, h⟩ := h
  replace h := popA_inv h; obtain ⟨v36, c37, rfl, h⟩ := h
  replace h := asB_inv h; obtain ⟨z38, rfl, h⟩ := h
  replace h := popA_inv h; obtain ⟨v39, c40, rfl, h⟩ := h
  replace h := as_l25_inv h; obtain ⟨z41, rfl, h⟩ := h
  replace h := popA_inv h; obtain ⟨v42, c43, rfl, h⟩ := h
  replace h := as_l25_inv h; obtain ⟨z44, rfl, h⟩ := h
  replace h := popA_inv h; obtain ⟨v45, c46, rfl, h⟩ := h
  replace h := as_l106_inv h; obtain ⟨z47, rfl, h⟩ := h
  replace h := popN_inv h; obtain ⟨rfl, h⟩ := h
  replace h := popB_inv h; obtain ⟨c48, e49, rfl, h⟩ := h
  replace h := popA_inv h; obtain ⟨v50, c51, rfl, h⟩ := h
  replace h := asI_inv h; obtain ⟨z52, rfl, h⟩ := h
  replace h := popA_inv h; obtain ⟨v53, c54, rfl, h⟩ := h
  replace h := asS_inv h; obtain ⟨z55, rfl, h⟩ := h
  replace h := popA_inv h; obtain ⟨v56, c57, rfl, h⟩ := h
  replace h := asS_inv h; obtain ⟨z58, rfl, h⟩ := h
  replace h := popA_inv h; obtain ⟨v59, c60, rfl, h⟩ := h
  replace h := asB_inv h; obtain ⟨z61, rfl, h⟩ := h
  replace h := popA_inv h; obtain ⟨v62, c63, rfl, h⟩ := h
  replace h := as_l113_inv h; obtain ⟨z64, rfl, h⟩ := h
  replace h := popA_inv h; obtain ⟨v65, c66, rfl, h⟩ := h
  replace h := as_ls_inv h; obtain ⟨z67, rfl, h⟩ := h
  replace h := popA_inv h; obtain ⟨v68, c69, rfl, h⟩ := h
  replace h := as_ll25_inv h; obtain ⟨z70, rfl, h⟩ := h
  replace h := popA_inv h; obtain ⟨v71, c72, rfl, h⟩ := h
  replace h := as_l90_inv h; obtain ⟨z73, rfl, h⟩ := h
  replace h := popA_inv h; obtain ⟨v74, c75, rfl, h⟩ := h
  replace h := as_ls_inv h; obtain ⟨z76, rfl, h⟩ := h
  replace h := popA_inv h; obtain ⟨v77, c78, rfl, h⟩ := h
  replace h := asB_inv h; obtain ⟨z79, rfl, h⟩ := h
  replace h := popA_inv h; obtain ⟨v80, c81, rfl, h⟩ := h
  replace h := as_l25_inv h; obtain ⟨z82, rfl, h⟩ := h
  replace h := popA_inv h; obtain ⟨v83, c84, rfl, h⟩ := h
  replace h := as_l25_inv h; obtain ⟨z85, rfl, h⟩ := h
  replace h := popA_inv h; obtain ⟨v86, c87, rfl, h⟩ := h
  replace h := as_l106_inv h; obtain ⟨z88, rfl, h⟩ := h
  replace h := popN_inv h; obtain ⟨rfl, h⟩ := h
  replace h := popN_inv h; obtain ⟨rfl, h⟩ := h
  exact (print_kinds_j14_eq3 k K t11 (⟨z11, z14, z17, z20, z23, z26, z29, z32, z35, z38, z41, z44, z47⟩ : S60) (⟨z52, z55, z58, z61, z64, z67, z70, z73, z76, z79, z82, z85, z88⟩ : S60)).trans h
theorem print_kinds_j17_eq4 {ρ : Type} (k : Nat) (K : Ex → St UU → Option ρ) (ok3 : Bool) (s1 : S60) (rest2 : S60) : exec UX (print_kinds_cfg k) (print_kinds_G k) (print_kinds_J.getD 4 .skip) ⟨[(1, .ptr 1 0), (2, .ptr 2 0), (3, .pv (.bool ok3))], [(1, [.pv (.int .i64 s1.f0), .pv (.str s1.f1), .pv (.str s1.f2), .pv (.bool s1.f3), .pv (.typ (.l113 s1.f4)), .pv (.typ (.ls s1.f5)), .pv (.typ (.ll25 s1.f6)), .pv (.typ (.l90 s1.f7)), .pv (.typ (.ls s1.f8)), .pv (.bool s1.f9), .pv (.typ (.l25 s1.f10)), .pv (.typ (.l25 s1.f11)), .pv (.typ (.l106 s1.f12))]), (2, [.pv (.int .i64 rest2.f0), .pv (.str rest2.f1), .pv (.str rest2.f2), .pv (.bool rest2.f3), .pv (.typ (.l113 rest2.f4)), .pv (.typ (.ls rest2.f5)), .pv (.typ (.ll25 rest2.f6)), .pv (.typ (.l90 rest2.f7)), .pv (.typ (.ls rest2.f8)), .pv (.bool rest2.f9), .pv (.typ (.l25 rest2.f10)), .pv (.typ (.l25 rest2.f11)), .pv (.typ (.l106 rest2.f12))])]⟩ (nrmK UX (print_kinds_cfg k) 17 K) = print_kinds_j17 k (fun ok3 rest2 => K .ret ⟨[(2, .ptr 2 0), (3, .pv (.bool ok3))], [(2, [.pv (.int .i64 rest2.f0), .pv (.str rest2.f1), .pv (.str rest2.f2), .pv (.bool rest2.f3), .pv (.typ (.l113 rest2.f4)), .pv (.typ (.ls rest2.f5)), .pv (.typ (.ll25 rest2.f6)), .pv (.typ (.l90 rest2.f7)), .pv (.typ (.ls rest2.f8)), .pv (.bool rest2.f9), .pv (.typ (.l25 rest2.f10)), .pv (.typ (.l25 rest2.f11)), .pv (.typ (.l106 rest2.f12))])]⟩) ok3 s1 rest2 := by kernel_rfl
theorem print_kinds_j17_ok4 {ρ : Type} (k : Nat) : JoinOK UX (print_kinds_cfg (ρ := ρ) k) (print_kinds_G k) (print_kinds_J.getD 4 .skip) 17 (print_kinds_j17_s k) := by
  intro s K r h
  obtain ⟨env, hp⟩ := s
  unfold print_kinds_j17_s at h
  replace h := popS_inv h; obtain ⟨v1, e2, rfl, h⟩ := h
  replace h := asP_inv h; obtain ⟨rfl, h⟩ := h
  replace h := popS_inv h; obtain ⟨v3, e4, rfl, h⟩ := h
  replace h := asP_inv h; obtain ⟨rfl, h⟩ := h
  replace h := popS_inv h; obtain ⟨v5, e6, rfl, h⟩ := h
  replace h := asB_inv h; obtain ⟨ok3, rfl, h⟩ := h
  replace h := popN_inv h; obtain ⟨rfl, h⟩ := h
  replace h := popB_inv h; obtain ⟨c7, e8, rfl, h⟩ := h
  replace h := popA_inv h; obtain ⟨v9, c10, rfl, h⟩ := h
  replace h := asI_inv h; obtain ⟨z11, rfl, h⟩ := h
  replace h := popA_inv h; obtain ⟨v12, c13, rfl, h⟩ := h
  replace h := asS_inv h; obtain ⟨z14, rfl, h⟩ := h
  replace h := popA_inv h; obtain ⟨v15, c16, rfl, h⟩ := h
  replace h := asS_inv h; obtain ⟨z17, rfl, h⟩ := h
  replace h := popA_inv h; obtain ⟨v18, c19, rfl, h⟩ := h
  replace h := asB_inv h; obtain ⟨z20, rfl, h⟩ := h
  replace h := popA_inv h; obtain ⟨v21, c22, rfl, h⟩ := h
  replace h := as_l113_inv h; obtain ⟨z23, rfl, h⟩ := h
  replace h := popA_inv h; obtain ⟨v24, c25, rfl, h⟩ := h
  replace h := as_ls_inv h; obtain ⟨z26, rfl, h⟩ := h
  replace h := popA_inv h; obtain ⟨v27, c28, rfl, h⟩ := h
  replace h := as_ll25_inv h; obtain ⟨z29, rfl, h⟩ := h
  replace h := popA_inv h; obtain ⟨v30, c31, rfl, h⟩ := h
  replace h := as_l90_inv h; obtain ⟨z32, rfl, h⟩ := h
  replace h := popA_inv h; obtain ⟨v33, c34, rfl, h⟩ := h
  replace h := as_ls_inv h; obtain ⟨z35, rfl, h⟩ := h
  replace h := popA_inv h; obtain ⟨v36, c37, rfl, h⟩ := h
  replace h := asB_inv h; obtain ⟨z38, rfl, h⟩ := h
  replace h := popA_inv h; obtain ⟨v39, c40, rfl, h⟩ := h
  replace h := as_l25_inv h; obtain ⟨z41, rfl, h⟩ := h
  replace h := popA_inv h; obtain ⟨v42, c43, rfl, h⟩ := h
  replace h := as_l25_inv h; obtain ⟨z44, rfl, h⟩ := h
  replace h := popA_inv h; obtain ⟨v45, c46, rfl, h⟩ := h
  replace h := as_l106_inv h; obtain ⟨z47, rfl, h⟩ := h
  replace h := popN_inv h; obtain ⟨rfl, h⟩ := h
  replace h := popB_inv h; obtain ⟨c48, e49, rfl, h⟩ := h
  replace h := popA_inv h; obtain ⟨v50, c51, rfl, h⟩ := h
  replace h := asI_inv h; obtain ⟨z52, rfl, h⟩ := h
  replace h := popA_inv h; obtain ⟨v53, c54, rfl, h⟩ := h
  replace h := asS_inv h; obtain ⟨z55, rfl, h⟩ := h
  replace h := popA_inv h; obtain ⟨v56, c57, rfl, h⟩ := h
  replace h := asS_inv h; obtain ⟨z58, rfl, h⟩ := h
  replace h := popA_inv h; obtain ⟨v59, c60, rfl, h⟩ := h
  replace h := asB_inv h; obtain ⟨z61, rfl, h⟩ := h
  replace h := popA_inv h; obtain ⟨v62, c63, rfl, h⟩ := h
  replace h := as_l113_inv h; obtain ⟨z64, rfl, h⟩ := h
  replace h := popA_inv h; obtain ⟨v65, c66, rfl, h⟩ := h
  replace h := as_ls_inv h; obtain ⟨z67, rfl, h⟩ := h
  replace h := popA_inv h; obtain ⟨v68, c69, rfl, h⟩ := h
  replace h := as_ll25_inv h; obtain ⟨z70, rfl, h⟩ := h
  replace h := popA_inv h; obtain ⟨v71, c72, rfl, h⟩ := h
  replace h := as_l90_inv h; obtain ⟨z73, rfl, h⟩ := h
  replace h := popA_inv h; obtain ⟨v74, c75, rfl, h⟩ := h
  replace h := as_ls_inv h; obtain ⟨z76, rfl, h⟩ := h
  replace h := popA_inv h; obtain ⟨v77, c78, rfl, h⟩ := h
  replace h := asB_inv h; obtain ⟨z79, rfl, h⟩ := h
  replace h := popA_inv h; obtain ⟨v80, c81, rfl, h⟩ := h
  replace h := as_l25_inv h; obtain ⟨z82, rfl, h⟩ := h
  replace h := popA_inv h; obtain ⟨v83, c84, rfl, h⟩ := h
  replace h := as_l25_inv h; obtain ⟨z85, rfl, h⟩ := h
  replace h := popA_inv h; obtain ⟨v86, c87, rfl, h⟩ := h
  replace h := as_l106_inv h; obtain ⟨z88, rfl, h⟩ := h
  replace h := popN_inv h; obtain ⟨rfl, h⟩ := h
  replace h := popN_inv h; obtain ⟨rfl, h⟩ := h
  exact (print_kinds_j17_eq4 k K ok3 (⟨z11, z14, z17, z20, z23, z26, z29, z32, z35, z38, z41, z44, z47⟩ : S60) (⟨z52, z55, z58, z61, z64, z67, z70, z73, z76, z79, z82, z85, z88⟩ : S60)).trans h
theorem print_kinds_j29_eq5 {ρ : Type} (k : Nat) (K : Ex → St UU → Option ρ) (ok3 : Bool) (s1 : S60) (rest2 : S60) : exec UX (print_kinds_cfg k) (print_kinds_G k) (print_kinds_J.getD 5 .skip) ⟨[(1, .ptr 1 0), (2, .ptr 2 0), (3, .pv (.bool ok3))], [(1, [.pv (.int .i64 s1.f0), .pv (.str s1.f1), .pv (.str s1.f2), .pv (.bool s1.f3), .pv (.typ (.l113 s1.f4)), .pv (.typ (.ls s1.f5)), .pv (.typ (.ll25 s1.f6)), .pv (.typ (.l90 s1.f7)), .pv (.typ (.ls s1.f8)), .pv (.bool s1.f9), .pv (.typ (.l25 s1.f10)), .pv (.typ (.l25 s1.f11)), .pv (.typ (.l106 s1.f12))]), (2, [.pv (.int .i64 rest2.f0), .pv (.str rest2.f1), .pv (.str rest2.f2), .pv (.bool rest2.f3), .pv (.typ (.l113 rest2.f4)), .pv (.typ (.ls rest2.f5)), .pv (.typ (.ll25 rest2.f6)), .pv (.typ (.l90 rest2.f7)), .pv (.typ (.ls rest2.f8)), .pv (.bool rest2.f9), .pv (.typ (.l25 rest2.f10)), .pv (.typ (.l25 rest2.f11)), .pv (.typ (.l106 rest2.f12))])]⟩ (nrmK UX (print_kinds_cfg k) 29 K) = print_kinds_j29 k (fun ok3 rest2 => K .ret ⟨[(2, .ptr 2 0), (3, .pv (.bool ok3))], [(2, [.pv (.int .i64 rest2.f0), .pv (.str rest2.f1), .pv (.str rest2.f2), .pv (.bool rest2.f3), .pv (.typ (.l113 rest2.f4)), .pv (.typ (.ls rest2.f5)), .pv (.typ (.ll25 rest2.f6)), .pv (.typ (.l90 rest2.f7)), .pv (.typ (.ls rest2.f8)), .pv (.bool rest2.f9), .pv (.typ (.l25 rest2.f10)), .pv (.typ (.l25 rest2.f11)), .pv (.typ (.l106 rest2.f12))])]⟩) ok3 s1 rest2 := by kernel_rfl
theorem print_kinds_j29_ok5 {ρ : Type} (k : Nat) : JoinOK UX (print_kinds_cfg (ρ := ρ) k) (print_kinds_G k) (print_kinds_J.getD 5 .skip) 29 (print_kinds_j29_s k) := by
  intro s K r h
  obtain ⟨env, hp⟩ := s
  unfold print_kinds_j29_s at h
  replace h := popS_inv h; obtain ⟨v1, e2, rfl, h⟩ := h
  replace h := asP_inv h; obtain ⟨rfl, h⟩ := h
  replace h := popS_inv h; obtain ⟨v3, e4, rfl, h⟩ := h
  replace h := asP_inv h; obtain ⟨rfl, h⟩ := h
  replace h := popS_inv h; obtain ⟨v5, e6, rfl, h⟩ := h
  replace h := asB_inv h; obtain ⟨ok3, rfl, h⟩ := h
  replace h := popN_inv h; obtain ⟨rfl, h⟩ := h
  replace h := popB_inv h; obtain ⟨c7, e8, rfl, h⟩ := h
  replace h := popA_inv h; obtain ⟨v9, c10, rfl, h⟩ := h
  replace h := asI_inv h; obtain ⟨z11, rfl, h⟩ := h
  replace h := popA_inv h; obtain ⟨v12, c13, rfl, h⟩ := h
  replace h := asS_inv h; obtain ⟨z14, rfl, h⟩ := h
  replace h := popA_inv h; obtain ⟨v15, c16, rfl, h⟩ := h
  replace h := asS_inv h; obtain ⟨z17, rfl, h⟩ := h
  replace h := popA_inv h; obtain ⟨v18, c19, rfl, h⟩ := h
  replace h := asB_inv h; obtain ⟨z20, rfl, h⟩ := h
  replace h := popA_inv h; obtain ⟨v21, c22, rfl, h⟩ := h
  replace h := as_l113_inv h; obtain ⟨z23, rfl, h⟩ := h
  replace h := popA_inv h; obtain ⟨v24, c25, rfl, h⟩ := h
  replace h := as_ls_inv h; obtain ⟨z26, rfl, h⟩ := h
  replace h := popA_inv h; obtain ⟨v27, c28, rfl, h⟩ := h
  replace h := as_ll25_inv h; obtain ⟨z29, rfl, h⟩ := h
  replace h := popA_inv h; obtain ⟨v30, c31, rfl, h⟩ := h
  replace h := as_l90_inv h; obtain ⟨z32, rfl, h⟩ := h
  replace h := popA_inv h; obtain ⟨v33, c34, rfl, h⟩ := h
  replace h := as_ls_inv h; obtain ⟨z35, rfl, h⟩ := h
  replace h := popA_inv h; obtain ⟨v36, c37, rfl, h⟩ := h
  replace h := asB_inv h; obtain ⟨z38, rfl, h⟩ := h
  replace h := popA_inv h; obtain ⟨v39, c40, rfl, h⟩ := h
  replace h := as_l25_inv h; obtain ⟨z41, rfl, h⟩ := h
  replace h := popA_inv h; obtain ⟨v42, c43, rfl, h⟩ := h
  replace h := as_l25_inv h; obtain ⟨z44, rfl, h⟩ := h
  replace h := popA_inv h; obtain ⟨v45, c46, rfl, h⟩ := h
  replace h := as_l106_inv h; obtain ⟨z47, rfl, h⟩ := h
  replace h := popN_inv h; obtain ⟨rfl, h⟩ := h
  replace h := popB_inv h; obtain ⟨c48, e49, rfl, h⟩ := h
  replace h := popA_inv h; obtain ⟨v50, c51, rfl, h⟩ := h
  replace h := asI_inv h; obtain ⟨z52, rfl, h⟩ := h
  replace h := popA_inv h; obtain ⟨v53, c54, rfl, h⟩ := h
  replace h := asS_inv h; obtain ⟨z55, rfl, h⟩ := h
  replace h := popA_inv h; obtain ⟨v56, c57, rfl, h⟩ := h
  replace h := asS_inv h; obtain ⟨z58, rfl, h⟩ := h
  replace h := popA_inv h; obtain ⟨v59, c60, rfl, h⟩ := h
  replace h := asB_inv h; obtain ⟨z61, rfl, h⟩ := h
  replace h := popA_inv h; obtain ⟨v62, c63, rfl, h⟩ := h
  replace h := as_l113_inv h; obtain ⟨z64, rfl, h⟩ := h
  replace h := popA_inv h; obtain ⟨v65, c66, rfl, h⟩ := h
  replace h := as_ls_inv h; obtain ⟨z67, rfl, h⟩ := h
  replace h := popA_inv h; obtain ⟨v68, c69, rfl, h⟩ := h
  replace h := as_ll25_inv h; obtain ⟨z70, rfl, h⟩ := h
  replace h := popA_inv h; obtain ⟨v71, c72, rfl, h⟩ := h
  replace h := as_l90_inv h; obtain ⟨z73, rfl, h⟩ := h
  replace h := popA_inv h; obtain ⟨v74, c75, rfl, h⟩ := h
  replace h := as_ls_inv h; obtain ⟨z76, rfl, h⟩ := h
  replace h := popA_inv h; obtain ⟨v77, c78, rfl, h⟩ := h
  replace h := asB_inv h; obtain ⟨z79, rfl, h⟩ := h
  replace h := popA_inv h; obtain ⟨v80, c81, rfl, h⟩ := h
  replace h := as_l25_inv h; obtain ⟨z82, rfl, h⟩ := h
  replace h := popA_inv h; obtain ⟨v83, c84, rfl, h⟩ := h
  replace h := as_l25_inv h; obtain ⟨z85, rfl, h⟩ := h
  replace h := popA_inv h; obtain ⟨v86, c87, rfl, h⟩ := h
  replace h := as_l106_inv h; obtain ⟨z88, rfl, h⟩ := h
  replace h := popN_inv h; obtain ⟨rfl, h⟩ := h
  replace h := popN_inv h; obtain ⟨rfl, h⟩ := h
  exact (print_kinds_j29_eq5 k K ok3 (⟨z11, z14, z17, z20, z23, z26, z29, z32, z35, z38, z41, z44, z47⟩ : S60) (⟨z52, z55, z58, z61, z64, z67, z70, z73, z76, z79, z82, z85, z88⟩ : S60)).trans h
theorem print_kinds_j38_eq6 {ρ : Type} (k : Nat) (K : Ex → St UU → Option ρ) (ok3 : Bool) (s1 : S60) (rest2 : S60) : exec UX (print_kinds_cfg k) (print_kinds_G k) (print_kinds_J.getD 6 .skip) ⟨[(1, .ptr 1 0), (2, .ptr 2 0), (3, .pv (.bool ok3))], [(1, [.pv (.int .i64 s1.f0), .pv (.str s1.f1), .pv (.str s1.f2), .pv (.bool s1.f3), .pv (.typ (.l113 s1.f4)), .pv (.typ (.ls s1.f5)), .pv (.typ (.ll25 s1.f6)), .pv (.typ (.l90 s1.f7)), .pv (.typ (.ls s1.f8)), .pv (.bool s1.f9), .pv (.typ (.l25 s1.f10)), .pv (.typ (.l25 s1.f11)), .pv (.typ (.l106 s1.f12))]), (2, [.pv (.int .i64 rest2.f0), .pv (.str rest2.f1), .pv (.str rest2.f2), .pv (.bool rest2.f3), .pv (.typ (.l113 rest2.f4)), .pv (.typ (.ls rest2.f5)), .pv (.typ (.ll25 rest2.f6)), .pv (.typ (.l90 rest2.f7)), .pv (.typ (.ls rest2.f8)), .pv (.bool rest2.f9), .pv (.typ (.l25 rest2.f10)), .pv (.typ (.l25 rest2.f11)), .pv (.typ (.l106 rest2.f12))])]⟩ (nrmK UX (print_kinds_cfg k) 38 K) = print_kinds_j38 k (fun ok3 rest2 => K .ret ⟨[(2, .ptr 2 0), (3, .pv (.bool ok3))], [(2, [.pv (.int .i64 rest2.f0), .pv (.str rest2.f1), .pv (.str rest2.f2), .pv (.bool rest2.f3), .pv (.typ (.l113 rest2.f4)), .pv (.typ (.ls rest2.f5)), .pv (.typ (.ll25 rest2.f6)), .pv (.typ (.l90 rest2.f7)), .pv (.typ (.ls rest2.f8)), .pv (.bool rest2.f9), .pv (.typ (.l25 rest2.f10)), .pv (.typ (.l25 rest2.f11)), .pv (.typ (.l106 rest2.f12))])]⟩) ok3 s1 rest2 := by kernel_rfl
theorem print_kinds_j38_ok6 {ρ : Type} (k : Nat) : JoinOK UX (print_kinds_cfg (ρ := ρ) k) (print_kinds_G k) (print_kinds_J.getD 6 .skip) 38 (print_kinds_j38_s k) := by
  intro s K r h
  obtain ⟨env, hp⟩ := s
  unfold print_kinds_j38_s at h
  replace h := popS_inv h; obtain ⟨v1, e2, rfl, h⟩ := h
  replace h := asP_inv h; obtain ⟨rfl, h⟩ := h
  replace h := popS_inv h; obtain ⟨v3, e4, rfl, h⟩ := h
  replace h := asP_inv h; obtain ⟨rfl, h⟩ := h
  replace h := popS_inv h; obtain ⟨v5, e6, rfl, h⟩ := h
  replace h := asB_inv h; obtain ⟨ok3, rfl, h⟩ := h
  replace h := popN_inv h; obtain ⟨rfl, h⟩ := h
  replace h := popB_inv h; obtain ⟨c7, e8, rfl, h⟩ := h
  replace h := popA_inv h; obtain ⟨v9, c10, rfl, h⟩ := h
  replace h := asI_inv h; obtain ⟨z11, rfl, h⟩ := h
  replace h := popA_inv h; obtain ⟨v12, c13, rfl, h⟩ := h
  replace h := asS_inv h; obtain ⟨z14, rfl, h⟩ := h
  replace h := popA_inv h; obtain ⟨v15, c16, rfl, h⟩ := h
  replace h := asS_inv h; obtain ⟨z17, rfl, h⟩ := h
  replace h := popA_inv h; obtain ⟨v18, c19, rfl, h⟩ := h
  replace h := asB_inv h; obtain ⟨z20, rfl, h⟩ := h
  replace h := popA_inv h; obtain ⟨v21, c22, rfl, h⟩ := h
  replace h := as_l113_inv h; obtain ⟨z23, rfl, h⟩ := h
  replace h := popA_inv h; obtain ⟨v24, c25, rfl, h⟩ := h
  replace h := as_ls_inv h; obtain ⟨z26, rfl, h⟩ := h
  replace h := popA_inv h; obtain ⟨v27, c28, rfl, h⟩ := h
  replace h := as_ll25_inv h; obtain ⟨z29, rfl, h⟩ := h
  replace h := popA_inv h; obtain ⟨v30, c31, rfl, h⟩ := h
  replace h := as_l90_inv h; obtain ⟨z32, rfl, h⟩ := h
  replace h := popA_inv h; obtain ⟨v33, c34, rfl, h⟩ := h
  replace h := as_ls_inv h; obtain ⟨z35, rfl, h⟩ := h
  replace h := popA_inv h; obtain ⟨v36, c37, rfl, h⟩ := h
  replace h := asB_inv h; obtain ⟨z38, rfl, h⟩ := h
  replace h := popA_inv h; obtain ⟨v39, c40, rfl, h⟩ := h
  replace h := as_l25_inv h; obtain ⟨z41, rfl, h⟩ := h
  replace h := popA_inv h; obtain ⟨v42, c43, rfl, h⟩ := h
  replace h := as_l25_inv h; obtain ⟨z44, rfl, h⟩ := h
  replace h := popA_inv h; obtain ⟨v45, c46, rfl, h⟩ := h
  replace h := as_l106_inv h; obtain ⟨z47, rfl, h⟩ := h
  replace h := popN_inv h; obtain ⟨rfl, h⟩ := h
  replace h := popB_inv h; obtain ⟨c48, e49, rfl, h⟩ := h
  replace h := popA_inv h; obtain ⟨v50, c51, rfl, h⟩ := h
  replace h := asI_inv h; obtain ⟨z52, rfl, h⟩ := h
  replace h := popA_inv h; obtain ⟨v53, c54, rfl, h⟩ := h
  replace h := asS_inv h; obtain ⟨z55, rfl, h⟩ := h
  replace h := popA_inv h; obtain ⟨v56, c57, rfl, h⟩ := h
  replace h := asS_inv h; obtain ⟨z58, rfl, h⟩ := h
  replace h := popA_inv h; obtain ⟨v59, c60, rfl, h⟩ := h
  replace h := asB_inv h; obtain ⟨z61, rfl, h⟩ := h
  replace h := popA_inv h; obtain ⟨v62, c63, rfl, h⟩ := h
  replace h := as_l113_inv h; obtain ⟨z64, rfl, h⟩ := h
  replace h := popA_inv h; obtain ⟨v65, c66, rfl, h⟩ := h
  replace h := as_ls_inv h; obtain ⟨z67, rfl, h⟩ := h
  replace h := popA_inv h; obtain ⟨v68, c69, rfl, h⟩ := h
  replace h := as_ll25_inv h; obtain ⟨z70, rfl, h⟩ := h
  replace h := popA_inv h; obtain ⟨v71, c72, rfl, h⟩ := h
  replace h := as_l90_inv h; obtain ⟨z73, rfl, h⟩ := h
  replace h := popA_inv h; obtain ⟨v74, c75, rfl, h⟩ := h
  replace h := as_ls_inv h; obtain ⟨z76, rfl, h⟩ := h
  replace h := popA_inv h; obtain ⟨v77, c78, rfl, h⟩ := h
  replace h := asB_inv h; obtain ⟨z79, rfl, h⟩ := h
  replace h := popA_inv h; obtain ⟨v80, c81, rfl, h⟩ := h
  replace h := as_l25_inv h; obtain ⟨z82, rfl, h⟩ := h
  replace h := popA_inv h; obtain ⟨v83, c84, rfl, h⟩ := h
  replace h := as_l25_inv h; obtain ⟨z85, rfl, h⟩ := h
  replace h := popA_inv h; obtain ⟨v86, c87, rfl, h⟩ := h
  replace h := as_l106_inv h; obtain ⟨z88, rfl, h⟩ := h
  replace h := popN_inv h; obtain ⟨rfl, h⟩ := h
  replace h := popN_inv h; obtain ⟨rfl, h⟩ := h
  exact (print_kinds_j38_eq6 k K ok3 (⟨z11, z14, z17, z20, z23, z26, z29, z32, z35, z38, z41, z44, z47⟩ : S60) (⟨z52, z55, z58, z61, z64, z67, z70, z73, z76, z79, z82, z85, z88⟩ : S60)).trans h
theorem print_kinds_cok {ρ : Type} (k : Nat) : COK (print_kinds_cfg (ρ := ρ) k) (print_kinds_G k) print_kinds_code :=
  cok_of (tl := [(18, print_kinds_l18_s k), (30, print_kinds_l30_s k)]) (tj := [(5, print_kinds_j5_s k), (12, print_kinds_j12_s k), (17, print_kinds_j17_s k), (29, print_kinds_j29_s k), (38, print_kinds_j38_s k), (14, print_kinds_j14_s k), (7, print_kinds_j7_s k)]) (tb := []) rfl rfl rfl (all_nth 2 (by kernel_rfl) ⟨iter_case (by kernel_rfl) rfl (print_kinds_l30_ok1 k), iter_case (by kernel_rfl) rfl (print_kinds_l18_ok0 k), trivial⟩) (all_nth 7 (by kernel_rfl) ⟨join_case (by kernel_rfl) rfl (print_kinds_j38_ok6 k), join_case (by kernel_rfl) rfl (print_kinds_j29_ok5 k), join_case (by kernel_rfl) rfl (print_kinds_j17_ok4 k), join_case (by kernel_rfl) rfl (print_kinds_j14_ok3 k), join_case (by kernel_rfl) rfl (print_kinds_j12_ok2 k), join_case (by kernel_rfl) rfl (print_kinds_j7_ok1 k), join_case (by kernel_rfl) rfl (print_kinds_j5_ok0 k), trivial⟩) (fun p hp => by cases hp)
noncomputable def print_kinds_enc (r : S60 × Bool) : AV UU := .pv (.tup [.typ (.s60 r.1), .bool r.2])
noncomputable def print_kinds_dec (v : AV UU) (_ : List (List (AV UU))) : Option (S60 × Bool) :=
asT v fun q1 =>
popA q1 fun p2 q3 =>
as_s60 (.pv p2) fun r0 =>
popA q3 fun p4 q5 =>
asB (.pv p4) fun r1 =>
popN q5 <|
some (r0, r1)
theorem print_kinds_dec_enc (v : AV UU) (b : List (List (AV UU))) (r : S60 × Bool) (h : print_kinds_dec v b = some r) : v = print_kinds_enc r := by
  unfold print_kinds_dec at h
  replace h := asT_inv h; obtain ⟨q1, rfl, h⟩ := h
  replace h := popA_inv h; obtain ⟨p2, q3, rfl, h⟩ := h
  replace h := as_s60_inv h; obtain ⟨r0, e, h⟩ := h; cases e
  replace h := popA_inv h; obtain ⟨p4, q5, rfl, h⟩ := h
  replace h := asB_inv h; obtain ⟨r1, e, h⟩ := h; cases e
  replace h := popN_inv h; obtain ⟨rfl, h⟩ := h
  cases h
  rfl
theorem print_kinds_eq (k : Nat) (s0 : S60) : bodyK UX (print_kinds_cfg k) (print_kinds_G k) Tryd.f49 [.pv (.typ (.s60 s0))] [] print_kinds_dec = print_kinds k s0 := by kernel_rfl
theorem print_kinds_con (k : Nat) (s0 : S60) (r : S60 × Bool) (h : print_kinds k s0 = some r) : Con (X := UX) Tryd.prog 49 [.pv (.typ (.s60 s0))] [] (print_kinds_enc r) [] :=
  con_of_body xok tok Tryd.func49 print_kinds_body (print_kinds_gok k) rfl (print_kinds_cok k) (of_decide_eq_true (by kernel_rfl)) print_kinds_dec_enc ((print_kinds_eq k s0).trans h)
noncomputable def print_kinds_an {ρ : Type} (k : Nat) : An UX ρ := fun args bx K =>
popA args fun v1 a2 =>
as_s60 v1 fun s0 =>
popN a2 <|
popN bx <|
(print_kinds k s0).bind fun r => K (print_kinds_enc r) []
theorem print_kinds_ok {ρ : Type} (k : Nat) : AnsOK Tryd.prog 49 (print_kinds_an (ρ := ρ) k) := by
  intro args bx K r h
  unfold print_kinds_an at h
  replace h := popA_inv h; obtain ⟨v1, a2, rfl, h⟩ := h
  replace h := as_s60_inv h; obtain ⟨s0, rfl, h⟩ := h
  replace h := popN_inv h; obtain ⟨rfl, h⟩ := h
  replace h := popN_inv h; obtain ⟨rfl, h⟩ := h
  replace h := bind_inv h
  obtain ⟨x, hx, h⟩ := h
  exact ⟨there_of Tryd.func49 (by kernel_rfl) print_kinds_body, _, _, h, print_kinds_con k s0 x hx⟩
end Go.Proofs.YtnoeedkbadoogaaDoor.P
