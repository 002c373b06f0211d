/-
  What the program's functions answer: the printed functions' answers.
-/
import Derived.Test.YtahgjfdndpnpfaaTG4
namespace Go.Proofs.Ytahgjfdndpnpfaa.T
open Go Go.AX
/-! cadastre/cadastrelaw3.LogicExact -/
noncomputable def cadastrelaw3_LogicExact_code : Code := match Try.f7.body with | some c => c | none => .skip
theorem cadastrelaw3_LogicExact_body : Try.f7.body = some cadastrelaw3_LogicExact_code := by kernel_rfl
noncomputable def cadastrelaw3_LogicExact_G {ρ : Type} (k : Nat) : Ans UX ρ := gk 8 (cadastreref2_May_an k) (gk 24 (cadastreref2_Truth_an k) (gk 25 (cadastreref2_Not_an k) (gk 26 (cadastreref2_Join_an k) (gk 27 (cadastreref2_Test_an k) (gk 28 (cadastreref2_Null_an k) (gk 29 (logic_True_an k) (gk 19 (cadastrelaw3_num_an k) (gk 23 (logic_Not_an k) (gk 30 (cadastrelaw3_is_an k) (gk 22 (logic_Join_an k) (gk 20 (logic_Test_an k) (gk 17 (logic_Null_an k) (gk 21 (cadastrelaw3_wakes_an k) (gnil))))))))))))))
theorem cadastrelaw3_LogicExact_gok {ρ : Type} (k : Nat) : GOK Try.prog (cadastrelaw3_LogicExact_G (ρ := ρ) k) := gok_cons (cadastreref2_May_ok k) (gok_cons (cadastreref2_Truth_ok k) (gok_cons (cadastreref2_Not_ok k) (gok_cons (cadastreref2_Join_ok k) (gok_cons (cadastreref2_Test_ok k) (gok_cons (cadastreref2_Null_ok k) (gok_cons (logic_True_ok k) (gok_cons (cadastrelaw3_num_ok k) (gok_cons (logic_Not_ok k) (gok_cons (cadastrelaw3_is_ok k) (gok_cons (logic_Join_ok k) (gok_cons (logic_Test_ok k) (gok_cons (logic_Null_ok k) (gok_cons (cadastrelaw3_wakes_ok k) (gok_nil))))))))))))))
noncomputable def cadastrelaw3_LogicExact_j18_s {ρ : Type} (k : Nat) : Run UX ρ := fun s K =>
popS 0 s.env fun v1 e2 =>
as_l25 v1 fun l0 =>
popS 3 e2 fun v3 e4 =>
asI .i64 v3 fun i3 =>
popS 4 e4 fun v5 e6 =>
asP 4 0 v5 <|
popS 5 e6 fun v7 e8 =>
asB v7 fun one5 =>
popS 6 e8 fun v9 e10 =>
asB v9 fun two6 =>
popS 8 e10 fun v11 e12 =>
asP 8 0 v11 <|
popS 9 e12 fun v13 e14 =>
asP 9 0 v13 <|
popS 10 e14 fun v15 e16 =>
asP 10 0 v15 <|
popS 11 e16 fun v17 e18 =>
asP 11 0 v17 <|
popS 12 e18 fun v19 e20 =>
asI .i64 v19 fun a12 =>
popS 13 e20 fun v21 e22 =>
asI .i64 v21 fun b13 =>
popS 15 e22 fun v23 e24 =>
asI .i64 v23 fun d15 =>
popS 16 e24 fun v25 e26 =>
asI .i64 v25 fun f16 =>
popS 17 e26 fun v27 e28 =>
asB v27 fun truth17 =>
popN e28 <|
popB 4 s.hp fun c29 e30 =>
popA c29 fun v31 c32 =>
asI .i64 v31 fun z33 =>
popA c32 fun v34 c35 =>
asI .i64 v34 fun z36 =>
popA c35 fun v37 c38 =>
asS v37 fun z39 =>
popA c38 fun v40 c41 =>
asI .i64 v40 fun z42 =>
popA c41 fun v43 c44 =>
asI .i64 v43 fun z45 =>
popA c44 fun v46 c47 =>
asS v46 fun z48 =>
popA c47 fun v49 c50 =>
asI .i64 v49 fun z51 =>
popN c50 <|
popB 8 e30 fun c52 e53 =>
popA c52 fun v54 c55 =>
asI .i64 v54 fun z56 =>
popA c55 fun v57 c58 =>
asI .i64 v57 fun z59 =>
popA c58 fun v60 c61 =>
asS v60 fun z62 =>
popN c61 <|
popB 9 e53 fun c63 e64 =>
popA c63 fun v65 c66 =>
asI .i64 v65 fun z67 =>
popA c66 fun v68 c69 =>
asI .i64 v68 fun z70 =>
popA c69 fun v71 c72 =>
asS v71 fun z73 =>
popN c72 <|
popB 10 e64 fun c74 e75 =>
popA c74 fun v76 c77 =>
asI .i64 v76 fun z78 =>
popA c77 fun v79 c80 =>
asI .i64 v79 fun z81 =>
popA c80 fun v82 c83 =>
asS v82 fun z84 =>
popN c83 <|
popB 11 e75 fun c85 e86 =>
popA c85 fun v87 c88 =>
asI .i64 v87 fun z89 =>
popA c88 fun v90 c91 =>
asI .i64 v90 fun z92 =>
popA c91 fun v93 c94 =>
asS v93 fun z95 =>
popN c94 <|
popN e86 <|
cadastrelaw3_LogicExact_j18 k (fun l0 i3 one5 two6 a12 b13 c14 d15 f16 truth17 p4 n8 j9 s10 u11 => K .nxt ⟨[(0, .pv (.typ (.l25 l0))), (3, .pv (.int .i64 i3)), (4, .ptr 4 0), (5, .pv (.bool one5)), (6, .pv (.bool two6)), (8, .ptr 8 0), (9, .ptr 9 0), (10, .ptr 10 0), (11, .ptr 11 0), (12, .pv (.int .i64 a12)), (13, .pv (.int .i64 b13)), (14, .pv (.int .i64 c14)), (15, .pv (.int .i64 d15)), (16, .pv (.int .i64 f16)), (17, .pv (.bool truth17))], [(4, [.pv (.int .i64 p4.f0.f0), .pv (.int .i64 p4.f0.f1), .pv (.str p4.f0.f2), .pv (.int .i64 p4.f1.f0), .pv (.int .i64 p4.f1.f1), .pv (.str p4.f1.f2), .pv (.int .i64 p4.f2)]), (8, [.pv (.int .i64 n8.f0), .pv (.int .i64 n8.f1), .pv (.str n8.f2)]), (9, [.pv (.int .i64 j9.f0), .pv (.int .i64 j9.f1), .pv (.str j9.f2)]), (10, [.pv (.int .i64 s10.f0), .pv (.int .i64 s10.f1), .pv (.str s10.f2)]), (11, [.pv (.int .i64 u11.f0), .pv (.int .i64 u11.f1), .pv (.str u11.f2)])]⟩) l0 i3 one5 two6 a12 b13 d15 f16 truth17 (⟨(⟨z33, z36, z39⟩ : S23), (⟨z42, z45, z48⟩ : S23), z51⟩ : S25) (⟨z56, z59, z62⟩ : S23) (⟨z67, z70, z73⟩ : S23) (⟨z78, z81, z84⟩ : S23) (⟨z89, z92, z95⟩ : S23)
noncomputable def cadastrelaw3_LogicExact_j26_s {ρ : Type} (k : Nat) : Run UX ρ := fun s K =>
popS 0 s.env fun v1 e2 =>
as_l25 v1 fun l0 =>
popS 3 e2 fun v3 e4 =>
asI .i64 v3 fun i3 =>
popS 4 e4 fun v5 e6 =>
asP 4 0 v5 <|
popS 8 e6 fun v7 e8 =>
asP 8 0 v7 <|
popS 9 e8 fun v9 e10 =>
asP 9 0 v9 <|
popS 10 e10 fun v11 e12 =>
asP 10 0 v11 <|
popS 11 e12 fun v13 e14 =>
asP 11 0 v13 <|
popS 13 e14 fun v15 e16 =>
asI .i64 v15 fun b13 =>
popS 14 e16 fun v17 e18 =>
asI .i64 v17 fun c14 =>
popS 15 e18 fun v19 e20 =>
asI .i64 v19 fun d15 =>
popS 16 e20 fun v21 e22 =>
asI .i64 v21 fun f16 =>
popN e22 <|
popB 4 s.hp fun c23 e24 =>
popA c23 fun v25 c26 =>
asI .i64 v25 fun z27 =>
popA c26 fun v28 c29 =>
asI .i64 v28 fun z30 =>
popA c29 fun v31 c32 =>
asS v31 fun z33 =>
popA c32 fun v34 c35 =>
asI .i64 v34 fun z36 =>
popA c35 fun v37 c38 =>
asI .i64 v37 fun z39 =>
popA c38 fun v40 c41 =>
asS v40 fun z42 =>
popA c41 fun v43 c44 =>
asI .i64 v43 fun z45 =>
popN c44 <|
popB 8 e24 fun c46 e47 =>
popA c46 fun v48 c49 =>
asI .i64 v48 fun z50 =>
popA c49 fun v51 c52 =>
asI .i64 v51 fun z53 =>
popA c52 fun v54 c55 =>
asS v54 fun z56 =>
popN c55 <|
popB 9 e47 fun c57 e58 =>
popA c57 fun v59 c60 =>
asI .i64 v59 fun z61 =>
popA c60 fun v62 c63 =>
asI .i64 v62 fun z64 =>
popA c63 fun v65 c66 =>
asS v65 fun z67 =>
popN c66 <|
popB 10 e58 fun c68 e69 =>
popA c68 fun v70 c71 =>
asI .i64 v70 fun z72 =>
popA c71 fun v73 c74 =>
asI .i64 v73 fun z75 =>
popA c74 fun v76 c77 =>
asS v76 fun z78 =>
popN c77 <|
popB 11 e69 fun c79 e80 =>
popA c79 fun v81 c82 =>
asI .i64 v81 fun z83 =>
popA c82 fun v84 c85 =>
asI .i64 v84 fun z86 =>
popA c85 fun v87 c88 =>
asS v87 fun z89 =>
popN c88 <|
popN e80 <|
cadastrelaw3_LogicExact_j26 k (fun t2 => K .ret ⟨[(2, .pv (.bool t2))], []⟩) (fun l0 i3 => K .nxt ⟨[(0, .pv (.typ (.l25 l0))), (3, .pv (.int .i64 i3))], []⟩) l0 i3 b13 c14 d15 f16 (⟨(⟨z27, z30, z33⟩ : S23), (⟨z36, z39, z42⟩ : S23), z45⟩ : S25) (⟨z50, z53, z56⟩ : S23) (⟨z61, z64, z67⟩ : S23) (⟨z72, z75, z78⟩ : S23) (⟨z83, z86, z89⟩ : S23)
noncomputable def cadastrelaw3_LogicExact_j23_s {ρ : Type} (k : Nat) : Run UX ρ := fun s K =>
popS 0 s.env fun v1 e2 =>
as_l25 v1 fun l0 =>
popS 3 e2 fun v3 e4 =>
asI .i64 v3 fun i3 =>
popS 4 e4 fun v5 e6 =>
asP 4 0 v5 <|
popS 8 e6 fun v7 e8 =>
asP 8 0 v7 <|
popS 9 e8 fun v9 e10 =>
asP 9 0 v9 <|
popS 10 e10 fun v11 e12 =>
asP 10 0 v11 <|
popS 11 e12 fun v13 e14 =>
asP 11 0 v13 <|
popS 12 e14 fun v15 e16 =>
asI .i64 v15 fun a12 =>
popS 13 e16 fun v17 e18 =>
asI .i64 v17 fun b13 =>
popS 14 e18 fun v19 e20 =>
asI .i64 v19 fun c14 =>
popS 15 e20 fun v21 e22 =>
asI .i64 v21 fun d15 =>
popS 16 e22 fun v23 e24 =>
asI .i64 v23 fun f16 =>
popS 17 e24 fun v25 e26 =>
asB v25 fun truth17 =>
popN e26 <|
popB 4 s.hp fun c27 e28 =>
popA c27 fun v29 c30 =>
asI .i64 v29 fun z31 =>
popA c30 fun v32 c33 =>
asI .i64 v32 fun z34 =>
popA c33 fun v35 c36 =>
asS v35 fun z37 =>
popA c36 fun v38 c39 =>
asI .i64 v38 fun z40 =>
popA c39 fun v41 c42 =>
asI .i64 v41 fun z43 =>
popA c42 fun v44 c45 =>
asS v44 fun z46 =>
popA c45 fun v47 c48 =>
asI .i64 v47 fun z49 =>
popN c48 <|
popB 8 e28 fun c50 e51 =>
popA c50 fun v52 c53 =>
asI .i64 v52 fun z54 =>
popA c53 fun v55 c56 =>
asI .i64 v55 fun z57 =>
popA c56 fun v58 c59 =>
asS v58 fun z60 =>
popN c59 <|
popB 9 e51 fun c61 e62 =>
popA c61 fun v63 c64 =>
asI .i64 v63 fun z65 =>
popA c64 fun v66 c67 =>
asI .i64 v66 fun z68 =>
popA c67 fun v69 c70 =>
asS v69 fun z71 =>
popN c70 <|
popB 10 e62 fun c72 e73 =>
popA c72 fun v74 c75 =>
asI .i64 v74 fun z76 =>
popA c75 fun v77 c78 =>
asI .i64 v77 fun z79 =>
popA c78 fun v80 c81 =>
asS v80 fun z82 =>
popN c81 <|
popB 11 e73 fun c83 e84 =>
popA c83 fun v85 c86 =>
asI .i64 v85 fun z87 =>
popA c86 fun v88 c89 =>
asI .i64 v88 fun z90 =>
popA c89 fun v91 c92 =>
asS v91 fun z93 =>
popN c92 <|
popN e84 <|
cadastrelaw3_LogicExact_j23 k (fun t2 => K .ret ⟨[(2, .pv (.bool t2))], []⟩) (fun l0 i3 => K .nxt ⟨[(0, .pv (.typ (.l25 l0))), (3, .pv (.int .i64 i3))], []⟩) l0 i3 a12 b13 c14 d15 f16 truth17 (⟨(⟨z31, z34, z37⟩ : S23), (⟨z40, z43, z46⟩ : S23), z49⟩ : S25) (⟨z54, z57, z60⟩ : S23) (⟨z65, z68, z71⟩ : S23) (⟨z76, z79, z82⟩ : S23) (⟨z87, z90, z93⟩ : S23)
noncomputable def cadastrelaw3_LogicExact_j21_s {ρ : Type} (k : Nat) : Run UX ρ := fun s K =>
popS 0 s.env fun v1 e2 =>
as_l25 v1 fun l0 =>
popS 3 e2 fun v3 e4 =>
asI .i64 v3 fun i3 =>
popS 4 e4 fun v5 e6 =>
asP 4 0 v5 <|
popS 5 e6 fun v7 e8 =>
asB v7 fun one5 =>
popS 8 e8 fun v9 e10 =>
asP 8 0 v9 <|
popS 9 e10 fun v11 e12 =>
asP 9 0 v11 <|
popS 10 e12 fun v13 e14 =>
asP 10 0 v13 <|
popS 11 e14 fun v15 e16 =>
asP 11 0 v15 <|
popS 12 e16 fun v17 e18 =>
asI .i64 v17 fun a12 =>
popS 13 e18 fun v19 e20 =>
asI .i64 v19 fun b13 =>
popS 14 e20 fun v21 e22 =>
asI .i64 v21 fun c14 =>
popS 15 e22 fun v23 e24 =>
asI .i64 v23 fun d15 =>
popS 16 e24 fun v25 e26 =>
asI .i64 v25 fun f16 =>
popS 17 e26 fun v27 e28 =>
asB v27 fun truth17 =>
popN e28 <|
popB 4 s.hp fun c29 e30 =>
popA c29 fun v31 c32 =>
asI .i64 v31 fun z33 =>
popA c32 fun v34 c35 =>
asI .i64 v34 fun z36 =>
popA c35 fun v37 c38 =>
asS v37 fun z39 =>
popA c38 fun v40 c41 =>
asI .i64 v40 fun z42 =>
popA c41 fun v43 c44 =>
asI .i64 v43 fun z45 =>
popA c44 fun v46 c47 =>
asS v46 fun z48 =>
popA c47 fun v49 c50 =>
asI .i64 v49 fun z51 =>
popN c50 <|
popB 8 e30 fun c52 e53 =>
popA c52 fun v54 c55 =>
asI .i64 v54 fun z56 =>
popA c55 fun v57 c58 =>
asI .i64 v57 fun z59 =>
popA c58 fun v60 c61 =>
asS v60 fun z62 =>
popN c61 <|
popB 9 e53 fun c63 e64 =>
popA c63 fun v65 c66 =>
asI .i64 v65 fun z67 =>
popA c66 fun v68 c69 =>
asI .i64 v68 fun z70 =>
popA c69 fun v71 c72 =>
asS v71 fun z73 =>
popN c72 <|
popB 10 e64 fun c74 e75 =>
popA c74 fun v76 c77 =>
asI .i64 v76 fun z78 =>
popA c77 fun v79 c80 =>
asI .i64 v79 fun z81 =>
popA c80 fun v82 c83 =>
asS v82 fun z84 =>
popN c83 <|
popB 11 e75 fun c85 e86 =>
popA c85 fun v87 c88 =>
asI .i64 v87 fun z89 =>
popA c88 fun v90 c91 =>
asI .i64 v90 fun z92 =>
popA c91 fun v93 c94 =>
asS v93 fun z95 =>
popN c94 <|
popN e86 <|
cadastrelaw3_LogicExact_j21 k (fun t2 => K .ret ⟨[(2, .pv (.bool t2))], []⟩) (fun l0 i3 => K .nxt ⟨[(0, .pv (.typ (.l25 l0))), (3, .pv (.int .i64 i3))], []⟩) l0 i3 one5 a12 b13 c14 d15 f16 truth17 (⟨(⟨z33, z36, z39⟩ : S23), (⟨z42, z45, z48⟩ : S23), z51⟩ : S25) (⟨z56, z59, z62⟩ : S23) (⟨z67, z70, z73⟩ : S23) (⟨z78, z81, z84⟩ : S23) (⟨z89, z92, z95⟩ : S23)
noncomputable def cadastrelaw3_LogicExact_j19_s {ρ : Type} (k : Nat) : Run UX ρ := fun s K =>
popS 0 s.env fun v1 e2 =>
as_l25 v1 fun l0 =>
popS 3 e2 fun v3 e4 =>
asI .i64 v3 fun i3 =>
popS 4 e4 fun v5 e6 =>
asP 4 0 v5 <|
popS 5 e6 fun v7 e8 =>
asB v7 fun one5 =>
popS 6 e8 fun v9 e10 =>
asB v9 fun two6 =>
popS 8 e10 fun v11 e12 =>
asP 8 0 v11 <|
popS 9 e12 fun v13 e14 =>
asP 9 0 v13 <|
popS 10 e14 fun v15 e16 =>
asP 10 0 v15 <|
popS 11 e16 fun v17 e18 =>
asP 11 0 v17 <|
popS 12 e18 fun v19 e20 =>
asI .i64 v19 fun a12 =>
popS 13 e20 fun v21 e22 =>
asI .i64 v21 fun b13 =>
popS 14 e22 fun v23 e24 =>
asI .i64 v23 fun c14 =>
popS 15 e24 fun v25 e26 =>
asI .i64 v25 fun d15 =>
popS 16 e26 fun v27 e28 =>
asI .i64 v27 fun f16 =>
popS 17 e28 fun v29 e30 =>
asB v29 fun truth17 =>
popN e30 <|
popB 4 s.hp fun c31 e32 =>
popA c31 fun v33 c34 =>
asI .i64 v33 fun z35 =>
popA c34 fun v36 c37 =>
asI .i64 v36 fun z38 =>
popA c37 fun v39 c40 =>
asS v39 fun z41 =>
popA c40 fun v42 c43 =>
asI .i64 v42 fun z44 =>
popA c43 fun v45 c46 =>
asI .i64 v45 fun z47 =>
popA c46 fun v48 c49 =>
asS v48 fun z50 =>
popA c49 fun v51 c52 =>
asI .i64 v51 fun z53 =>
popN c52 <|
popB 8 e32 fun c54 e55 =>
popA c54 fun v56 c57 =>
asI .i64 v56 fun z58 =>
popA c57 fun v59 c60 =>
asI .i64 v59 fun z61 =>
popA c60 fun v62 c63 =>
asS v62 fun z64 =>
popN c63 <|
popB 9 e55 fun c65 e66 =>
popA c65 fun v67 c68 =>
asI .i64 v67 fun z69 =>
popA c68 fun v70 c71 =>
asI .i64 v70 fun z72 =>
popA c71 fun v73 c74 =>
asS v73 fun z75 =>
popN c74 <|
popB 10 e66 fun c76 e77 =>
popA c76 fun v78 c79 =>
asI .i64 v78 fun z80 =>
popA c79 fun v81 c82 =>
asI .i64 v81 fun z83 =>
popA c82 fun v84 c85 =>
asS v84 fun z86 =>
popN c85 <|
popB 11 e77 fun c87 e88 =>
popA c87 fun v89 c90 =>
asI .i64 v89 fun z91 =>
popA c90 fun v92 c93 =>
asI .i64 v92 fun z94 =>
popA c93 fun v95 c96 =>
asS v95 fun z97 =>
popN c96 <|
popN e88 <|
cadastrelaw3_LogicExact_j19 k (fun t2 => K .ret ⟨[(2, .pv (.bool t2))], []⟩) (fun l0 i3 => K .nxt ⟨[(0, .pv (.typ (.l25 l0))), (3, .pv (.int .i64 i3))], []⟩) l0 i3 one5 two6 a12 b13 c14 d15 f16 truth17 (⟨(⟨z35, z38, z41⟩ : S23), (⟨z44, z47, z50⟩ : S23), z53⟩ : S25) (⟨z58, z61, z64⟩ : S23) (⟨z69, z72, z75⟩ : S23) (⟨z80, z83, z86⟩ : S23) (⟨z91, z94, z97⟩ : S23)
noncomputable def cadastrelaw3_LogicExact_j17_s {ρ : Type} (k : Nat) : Run UX ρ := fun s K =>
popS 0 s.env fun v1 e2 =>
as_l25 v1 fun l0 =>
popS 3 e2 fun v3 e4 =>
asI .i64 v3 fun i3 =>
popS 4 e4 fun v5 e6 =>
asP 4 0 v5 <|
popS 5 e6 fun v7 e8 =>
asB v7 fun one5 =>
popS 6 e8 fun v9 e10 =>
asB v9 fun two6 =>
popS 8 e10 fun v11 e12 =>
asP 8 0 v11 <|
popS 9 e12 fun v13 e14 =>
asP 9 0 v13 <|
popS 10 e14 fun v15 e16 =>
asP 10 0 v15 <|
popS 11 e16 fun v17 e18 =>
asP 11 0 v17 <|
popS 12 e18 fun v19 e20 =>
asI .i64 v19 fun a12 =>
popS 13 e20 fun v21 e22 =>
asI .i64 v21 fun b13 =>
popS 14 e22 fun v23 e24 =>
asI .i64 v23 fun c14 =>
popS 15 e24 fun v25 e26 =>
asI .i64 v25 fun d15 =>
popS 16 e26 fun v27 e28 =>
asI .i64 v27 fun f16 =>
popS 17 e28 fun v29 e30 =>
asB v29 fun truth17 =>
popN e30 <|
popB 4 s.hp fun c31 e32 =>
popA c31 fun v33 c34 =>
asI .i64 v33 fun z35 =>
popA c34 fun v36 c37 =>
asI .i64 v36 fun z38 =>
popA c37 fun v39 c40 =>
asS v39 fun z41 =>
popA c40 fun v42 c43 =>
asI .i64 v42 fun z44 =>
popA c43 fun v45 c46 =>
asI .i64 v45 fun z47 =>
popA c46 fun v48 c49 =>
asS v48 fun z50 =>
popA c49 fun v51 c52 =>
asI .i64 v51 fun z53 =>
popN c52 <|
popB 8 e32 fun c54 e55 =>
popA c54 fun v56 c57 =>
asI .i64 v56 fun z58 =>
popA c57 fun v59 c60 =>
asI .i64 v59 fun z61 =>
popA c60 fun v62 c63 =>
asS v62 fun z64 =>
popN c63 <|
popB 9 e55 fun c65 e66 =>
popA c65 fun v67 c68 =>
asI .i64 v67 fun z69 =>
popA c68 fun v70 c71 =>
asI .i64 v70 fun z72 =>
popA c71 fun v73 c74 =>
asS v73 fun z75 =>
popN c74 <|
popB 10 e66 fun c76 e77 =>
popA c76 fun v78 c79 =>
asI .i64 v78 fun z80 =>
popA c79 fun v81 c82 =>
asI .i64 v81 fun z83 =>
popA c82 fun v84 c85 =>
asS v84 fun z86 =>
popN c85 <|
popB 11 e77 fun c87 e88 =>
popA c87 fun v89 c90 =>
asI .i64 v89 fun z91 =>
popA c90 fun v92 c93 =>
asI .i64 v92 fun z94 =>
popA c93 fun v95 c96 =>
asS v95 fun z97 =>
popN c96 <|
popN e88 <|
cadastrelaw3_LogicExact_j17 k (fun t2 => K .ret ⟨[(2, .pv (.bool t2))], []⟩) (fun l0 i3 => K .nxt ⟨[(0, .pv (.typ (.l25 l0))), (3, .pv (.int .i64 i3))], []⟩) l0 i3 one5 two6 a12 b13 c14 d15 f16 truth17 (⟨(⟨z35, z38, z41⟩ : S23), (⟨z44, z47, z50⟩ : S23), z53⟩ : S25) (⟨z58, z61, z64⟩ : S23) (⟨z69, z72, z75⟩ : S23) (⟨z80, z83, z86⟩ : S23) (⟨z91, z94, z97⟩ : S23)
noncomputable def cadastrelaw3_LogicExact_j7_s {ρ : Type} (k : Nat) : Run UX ρ := fun s K =>
popS 0 s.env fun v1 e2 =>
as_l25 v1 fun l0 =>
popS 3 e2 fun v3 e4 =>
asI .i64 v3 fun i3 =>
popS 4 e4 fun v5 e6 =>
asP 4 0 v5 <|
popS 5 e6 fun v7 e8 =>
asB v7 fun one5 =>
popS 6 e8 fun v9 e10 =>
asB v9 fun two6 =>
popN e10 <|
popB 4 s.hp fun c11 e12 =>
popA c11 fun v13 c14 =>
asI .i64 v13 fun z15 =>
popA c14 fun v16 c17 =>
asI .i64 v16 fun z18 =>
popA c17 fun v19 c20 =>
asS v19 fun z21 =>
popA c20 fun v22 c23 =>
asI .i64 v22 fun z24 =>
popA c23 fun v25 c26 =>
asI .i64 v25 fun z27 =>
popA c26 fun v28 c29 =>
asS v28 fun z30 =>
popA c29 fun v31 c32 =>
asI .i64 v31 fun z33 =>
popN c32 <|
popN e12 <|
cadastrelaw3_LogicExact_j7 k (fun t2 => K .ret ⟨[(2, .pv (.bool t2))], []⟩) (fun l0 i3 => K .nxt ⟨[(0, .pv (.typ (.l25 l0))), (3, .pv (.int .i64 i3))], []⟩) l0 i3 one5 two6 (⟨(⟨z15, z18, z21⟩ : S23), (⟨z24, z27, z30⟩ : S23), z33⟩ : S25)
noncomputable def cadastrelaw3_LogicExact_j4_s {ρ : Type} (k : Nat) : Run UX ρ := fun s K =>
popS 0 s.env fun v1 e2 =>
as_l25 v1 fun l0 =>
popS 3 e2 fun v3 e4 =>
asI .i64 v3 fun i3 =>
popN e4 <|
popN s.hp <|
cadastrelaw3_LogicExact_j4 k (fun t2 => K .ret ⟨[(2, .pv (.bool t2))], []⟩) (fun l0 i3 => K .nxt ⟨[(0, .pv (.typ (.l25 l0))), (3, .pv (.int .i64 i3))], []⟩) l0 i3
noncomputable def cadastrelaw3_LogicExact_l2_s {ρ : Type} (k : Nat) : Run UX ρ := fun s K =>
popS 0 s.env fun v1 e2 =>
as_l25 v1 fun l0 =>
popS 3 e2 fun v3 e4 =>
asI .i64 v3 fun i3 =>
popN e4 <|
popN s.hp <|
cadastrelaw3_LogicExact_l2 k (fun t2 => K .ret ⟨[(2, .pv (.bool t2))], []⟩) (K (.exit 0) ⟨[], []⟩) k l0 i3
noncomputable def cadastrelaw3_LogicExact_cfg {ρ : Type} (k : Nat) : Cfg UX ρ where
  live i := (assoc [(0, [0]), (1, [0]), (2, [0, 3]), (3, [0, 3]), (4, [0, 3]), (5, [0, 3, 4]), (6, [0, 3, 4, 5]), (7, [0, 3, 4, 5, 6]), (8, [0, 3, 4, 5, 6, 7]), (9, [0, 3, 4, 5, 6, 8, 9, 10, 11]), (10, [0, 3, 4, 5, 6, 8, 9, 10, 11, 12, 13, 14, 15, 16]), (11, [0, 3, 4, 5, 6, 8, 9, 10, 11, 12, 13, 14, 15, 16, 17]), (12, [0, 3, 4, 5, 6, 8, 9, 10, 11, 14, 15, 16]), (13, [0, 3, 4, 5, 6, 8, 9, 10, 11, 12, 14, 15, 16]), (14, [0, 3, 4, 5, 6, 8, 9, 10, 11, 12, 14, 15, 16, 17]), (15, [0, 3, 4, 5, 6, 8, 9, 10, 11, 14, 15, 16, 17]), (16, [0, 3, 4, 5, 6, 8, 9, 10, 11, 12, 14, 15, 16, 17]), (17, [0, 3, 4, 5, 6, 8, 9, 10, 11, 12, 13, 14, 15, 16, 17]), (18, [0, 3, 4, 5, 6, 8, 9, 10, 11, 12, 13, 15, 16, 17]), (19, [0, 3, 4, 5, 6, 8, 9, 10, 11, 12, 13, 14, 15, 16, 17]), (20, [0, 3, 4, 5, 8, 9, 10, 11, 12, 13, 14, 16, 17]), (21, [0, 3, 4, 5, 8, 9, 10, 11, 12, 13, 14, 15, 16, 17]), (22, [0, 3, 4, 8, 9, 10, 11, 12, 13, 14, 15, 17]), (23, [0, 3, 4, 8, 9, 10, 11, 12, 13, 14, 15, 16, 17]), (24, [0, 3, 4, 8, 9, 10, 11, 12, 13, 14, 15, 16, 17, 18, 19]), (25, []), (26, [0, 3, 4, 8, 9, 10, 11, 13, 14, 15, 16]), (27, [0, 3, 4, 8, 9, 10, 11, 13, 14, 15, 16, 19, 20]), (28, []), (29, [0, 3, 4, 9, 10, 11, 14, 15, 16, 20]), (30, [0, 3, 4, 9, 10, 11, 14, 15, 16, 19, 20]), (31, []), (32, [0, 3, 4, 10, 11, 15, 16, 20]), (33, [0, 3, 4, 10, 11, 15, 16, 19, 20]), (34, []), (35, [0, 3, 4, 11, 16, 20]), (36, [0, 3, 11, 16, 19, 20]), (37, []), (38, [])] i).getD []
  boxes i := (assoc [(0, []), (1, []), (2, []), (3, []), (4, []), (5, [4]), (6, [4]), (7, [4]), (8, [4, 7]), (9, [4, 8, 9, 10, 11]), (10, [4, 8, 9, 10, 11]), (11, [4, 8, 9, 10, 11]), (12, [4, 8, 9, 10, 11]), (13, [4, 8, 9, 10, 11]), (14, [4, 8, 9, 10, 11]), (15, [4, 8, 9, 10, 11]), (16, [4, 8, 9, 10, 11]), (17, [4, 8, 9, 10, 11]), (18, [4, 8, 9, 10, 11]), (19, [4, 8, 9, 10, 11]), (20, [4, 8, 9, 10, 11]), (21, [4, 8, 9, 10, 11]), (22, [4, 8, 9, 10, 11]), (23, [4, 8, 9, 10, 11]), (24, [4, 8, 9, 10, 11]), (25, []), (26, [4, 8, 9, 10, 11]), (27, [4, 8, 9, 10, 11, 20]), (28, []), (29, [4, 9, 10, 11, 20]), (30, [4, 9, 10, 11, 20]), (31, []), (32, [4, 10, 11, 20]), (33, [4, 10, 11, 20]), (34, []), (35, [4, 11, 20]), (36, [11, 20]), (37, []), (38, [])] i).getD []
  tk _ := []
  n := 193
  labelR l := (assoc [] l).getD 0
  loops := assoc [(2, cadastrelaw3_LogicExact_l2_s k)]
  labels := assoc []
  joins := assoc [(18, cadastrelaw3_LogicExact_j18_s k), (26, cadastrelaw3_LogicExact_j26_s k), (23, cadastrelaw3_LogicExact_j23_s k), (21, cadastrelaw3_LogicExact_j21_s k), (19, cadastrelaw3_LogicExact_j19_s k), (17, cadastrelaw3_LogicExact_j17_s k), (7, cadastrelaw3_LogicExact_j7_s k), (4, cadastrelaw3_LogicExact_j4_s k)]
  xl i e := match e with
    | .nxt => assoc [(18, ([0, 3, 4, 5, 6, 8, 9, 10, 11, 12, 13, 14, 15, 16, 17], [4, 8, 9, 10, 11])), (26, ([0, 3], [])), (23, ([0, 3], [])), (21, ([0, 3], [])), (19, ([0, 3], [])), (17, ([0, 3], [])), (7, ([0, 3], [])), (4, ([0, 3], []))] i
    | .ret => assoc [(26, ([2], [])), (23, ([2], [])), (21, ([2], [])), (19, ([2], [])), (17, ([2], [])), (7, ([2], [])), (4, ([2], [])), (2, ([2], []))] i
    | .exit j => (assoc [(2, [(0, ([], []))])] i).bind fun l => assoc l j
    | .goto j => (assoc [] i).bind fun l => assoc l j
noncomputable def cadastrelaw3_LogicExact_L : List Code := selI [2] (loopsOf cadastrelaw3_LogicExact_code)
noncomputable def cadastrelaw3_LogicExact_J : List Code := selI [18, 26, 23, 21, 19, 17, 7, 4] (joinsOf cadastrelaw3_LogicExact_code)
noncomputable def cadastrelaw3_LogicExact_S : List Code := scopesOf cadastrelaw3_LogicExact_code
theorem cadastrelaw3_LogicExact_l2_eq0 {ρ : Type} (k : Nat) (K : Ex → St UU → Option ρ) : ∀ (n : Nat) (v : (List S25) × Int), iterK UX (fun s => s.at (cadastrelaw3_LogicExact_cfg (ρ := ρ) k).live (cadastrelaw3_LogicExact_cfg (ρ := ρ) k).boxes (some 2)) (exec UX (cadastrelaw3_LogicExact_cfg k) (cadastrelaw3_LogicExact_G k) (cadastrelaw3_LogicExact_L.getD 0 .skip)) n ⟨[(0, .pv (.typ (.l25 v.1))), (3, .pv (.int .i64 v.2))], []⟩ (nrmK UX (cadastrelaw3_LogicExact_cfg k) 2 K) = cadastrelaw3_LogicExact_l2 k (fun t2 => K .ret ⟨[(2, .pv (.bool t2))], []⟩) (K (.exit 0) ⟨[], []⟩) n v.1 v.2 :=
  iter_rec (X := UX) (fun v => ⟨[(0, .pv (.typ (.l25 v.1))), (3, .pv (.int .i64 v.2))], []⟩) (fun rec v => cadastrelaw3_LogicExact_l2_b k (fun t2 => K .ret ⟨[(2, .pv (.bool t2))], []⟩) (K (.exit 0) ⟨[], []⟩) (fun l0 i3 => rec (l0, i3)) v.1 v.2) (fun n v => cadastrelaw3_LogicExact_l2 k (fun t2 => K .ret ⟨[(2, .pv (.bool t2))], []⟩) (K (.exit 0) ⟨[], []⟩) n v.1 v.2) (fun n v => by kernel_rfl) (fun _ => rfl) (fun _ _ => rfl)
theorem cadastrelaw3_LogicExact_l2_ok0 {ρ : Type} (k : Nat) : IterOK UX (cadastrelaw3_LogicExact_cfg (ρ := ρ) k) (cadastrelaw3_LogicExact_G k) (cadastrelaw3_LogicExact_L.getD 0 .skip) 2 (cadastrelaw3_LogicExact_l2_s k) := by
  intro s K r h
  obtain ⟨env, hp⟩ := s
  unfold cadastrelaw3_LogicExact_l2_s at h
  replace h := popS_inv h; obtain ⟨v1, e2, rfl, h⟩ := h
  replace h := as_l25_inv h; obtain ⟨l0, rfl, h⟩ := h
  replace h := popS_inv h; obtain ⟨v3, e4, rfl, h⟩ := h
  replace h := asI_inv h; obtain ⟨i3, rfl, h⟩ := h
  replace h := popN_inv h; obtain ⟨rfl, h⟩ := h
  replace h := popN_inv h; obtain ⟨rfl, h⟩ := h
  exact ⟨k, (cadastrelaw3_LogicExact_l2_eq0 k K k (l0, i3)).trans h⟩
theorem cadastrelaw3_LogicExact_j4_eq0 {ρ : Type} (k : Nat) (K : Ex → St UU → Option ρ) (l0 : List S25) (i3 : Int) : exec UX (cadastrelaw3_LogicExact_cfg k) (cadastrelaw3_LogicExact_G k) (cadastrelaw3_LogicExact_J.getD 0 .skip) ⟨[(0, .pv (.typ (.l25 l0))), (3, .pv (.int .i64 i3))], []⟩ (nrmK UX (cadastrelaw3_LogicExact_cfg k) 4 K) = cadastrelaw3_LogicExact_j4 k (fun t2 => K .ret ⟨[(2, .pv (.bool t2))], []⟩) (fun l0 i3 => K .nxt ⟨[(0, .pv (.typ (.l25 l0))), (3, .pv (.int .i64 i3))], []⟩) l0 i3 := by kernel_rfl
theorem cadastrelaw3_LogicExact_j4_ok0 {ρ : Type} (k : Nat) : JoinOK UX (cadastrelaw3_LogicExact_cfg (ρ := ρ) k) (cadastrelaw3_LogicExact_G k) (cadastrelaw3_LogicExact_J.getD 0 .skip) 4 (cadastrelaw3_LogicExact_j4_s k) := by
  intro s K r h
  obtain ⟨env, hp⟩ := s
  unfold cadastrelaw3_LogicExact_j4_s at h
  replace h := popS_inv h; obtain ⟨v1, e2, rfl, h⟩ := h
  replace h := as_l25_inv h; obtain ⟨l0, rfl, h⟩ := h
  replace h := popS_inv h; obtain ⟨v3, e4, rfl, h⟩ := h
  replace h := asI_inv h; obtain ⟨i3, rfl, h⟩ := h
  replace h := popN_inv h; obtain ⟨rfl, h⟩ := h
  replace h := popN_inv h; obtain ⟨rfl, h⟩ := h
  exact (cadastrelaw3_LogicExact_j4_eq0 k K l0 i3).trans h
theorem cadastrelaw3_LogicExact_j7_eq1 {ρ : Type} (k : Nat) (K : Ex → St UU → Option ρ) (l0 : List S25) (i3 : Int) (one5 : Bool) (two6 : Bool) (p4 : S25) : exec UX (cadastrelaw3_LogicExact_cfg k) (cadastrelaw3_LogicExact_G k) (cadastrelaw3_LogicExact_J.getD 1 .skip) ⟨[(0, .pv (.typ (.l25 l0))), (3, .pv (.int .i64 i3)), (4, .ptr 4 0), (5, .pv (.bool one5)), (6, .pv (.bool two6))], [(4, [.pv (.int .i64 p4.f0.f0), .pv (.int .i64 p4.f0.f1), .pv (.str p4.f0.f2), .pv (.int .i64 p4.f1.f0), .pv (.int .i64 p4.f1.f1), .pv (.str p4.f1.f2), .pv (.int .i64 p4.f2)])]⟩ (nrmK UX (cadastrelaw3_LogicExact_cfg k) 7 K) = cadastrelaw3_LogicExact_j7 k (fun t2 => K .ret ⟨[(2, .pv (.bool t2))], []⟩) (fun l0 i3 => K .nxt ⟨[(0, .pv (.typ (.l25 l0))), (3, .pv (.int .i64 i3))], []⟩) l0 i3 one5 two6 p4 := by kernel_rfl
theorem cadastrelaw3_LogicExact_j7_ok1 {ρ : Type} (k : Nat) : JoinOK UX (cadastrelaw3_LogicExact_cfg (ρ := ρ) k) (cadastrelaw3_LogicExact_G k) (cadastrelaw3_LogicExact_J.getD 1 .skip) 7 (cadastrelaw3_LogicExact_j7_s k) := by
  intro s K r h
  obtain ⟨env, hp⟩ := s
  unfold cadastrelaw3_LogicExact_j7_s at h
  replace h := popS_inv h; obtain ⟨v1, e2, rfl, h⟩ := h
  replace h := as_l25_inv h; obtain ⟨l0, rfl, h⟩ := h
  replace h := popS_inv h; obtain ⟨v3, e4, rfl, h⟩ := h
  replace h := asI_inv h; obtain ⟨i3, rfl, h⟩ := h
  replace h := popS_inv h; obtain ⟨v5, e6, rfl, h⟩ := h
  replace h := asP_inv h; obtain ⟨rfl, h⟩ := h
  replace h := popS_inv h; obtain ⟨v7, e8, rfl, h⟩ := h
  replace h := asB_inv h; obtain ⟨one5, rfl, h⟩ := h
  replace h := popS_inv h; obtain ⟨v9, e10, rfl, h⟩ := h
  replace h := asB_inv h; obtain ⟨two6, rfl, h⟩ := h
  replace h := popN_inv h; obtain ⟨rfl, h⟩ := h
  replace h := popB_inv h; obtain ⟨c11, e12, rfl, h⟩ := h
  replace h := popA_inv h; obtain ⟨v13, c14, rfl, h⟩ := h
  replace h := asI_inv h; obtain ⟨z15, rfl, h⟩ := h
  replace h := popA_inv h; obtain ⟨v16, c17, rfl, h⟩ := h
  replace h := asI_inv h; obtain ⟨z18, rfl, h⟩ := h
  replace h := popA_inv h; obtain ⟨v19, c20, rfl, h⟩ := h
  replace h := asS_inv h; obtain ⟨z21, rfl, h⟩ := h
  replace h := popA_inv h; obtain ⟨v22, c23, rfl, h⟩ := h
  replace h := asI_inv h; obtain ⟨z24, rfl, h⟩ := h
  replace h := popA_inv h; obtain ⟨v25, c26, rfl, h⟩ := h
  replace h := asI_inv h; obtain ⟨z27, rfl, h⟩ := h
  replace h := popA_inv h; obtain ⟨v28, c29, rfl, h⟩ := h
  replace h := asS_inv h; obtain ⟨z30, rfl, h⟩ := h
  replace h := popA_inv h; obtain ⟨v31, c32, rfl, h⟩ := h
  replace h := asI_inv h; obtain ⟨z33, rfl, h⟩ := h
  replace h := popN_inv h; obtain ⟨rfl, h⟩ := h
  replace h := popN_inv h; obtain ⟨rfl, h⟩ := h
  exact (cadastrelaw3_LogicExact_j7_eq1 k K l0 i3 one5 two6 (⟨(⟨z15, z18, z21⟩ : S23), (⟨z24, z27, z30⟩ : S23), z33⟩ : S25)).trans h
theorem cadastrelaw3_LogicExact_j17_eq2 {ρ : Type} (k : Nat) (K : Ex → St UU → Option ρ) (l0 : List S25) (i3 : Int) (one5 : Bool) (two6 : Bool) (a12 : Int) (b13 : Int) (c14 : Int) (d15 : Int) (f16 : Int) (truth17 : Bool) (p4 : S25) (n8 : S23) (j9 : S23) (s10 : S23) (u11 : S23) : exec UX (cadastrelaw3_LogicExact_cfg k) (cadastrelaw3_LogicExact_G k) (cadastrelaw3_LogicExact_J.getD 2 .skip) ⟨[(0, .pv (.typ (.l25 l0))), (3, .pv (.int .i64 i3)), (4, .ptr 4 0), (5, .pv (.bool one5)), (6, .pv (.bool two6)), (8, .ptr 8 0), (9, .ptr 9 0), (10, .ptr 10 0), (11, .ptr 11 0), (12, .pv (.int .i64 a12)), (13, .pv (.int .i64 b13)), (14, .pv (.int .i64 c14)), (15, .pv (.int .i64 d15)), (16, .pv (.int .i64 f16)), (17, .pv (.bool truth17))], [(4, [.pv (.int .i64 p4.f0.f0), .pv (.int .i64 p4.f0.f1), .pv (.str p4.f0.f2), .pv (.int .i64 p4.f1.f0), .pv (.int .i64 p4.f1.f1), .pv (.str p4.f1.f2), .pv (.int .i64 p4.f2)]), (8, [.pv (.int .i64 n8.f0), .pv (.int .i64 n8.f1), .pv (.str n8.f2)]), (9, [.pv (.int .i64 j9.f0), .pv (.int .i64 j9.f1), .pv (.str j9.f2)]), (10, [.pv (.int .i64 s10.f0), .pv (.int .i64 s10.f1), .pv (.str s10.f2)]), (11, [.pv (.int .i64 u11.f0), .pv (.int .i64 u11.f1), .pv (.str u11.f2)])]⟩ (nrmK UX (cadastrelaw3_LogicExact_cfg k) 17 K) = cadastrelaw3_LogicExact_j17 k (fun t2 => K .ret ⟨[(2, .pv (.bool t2))], []⟩) (fun l0 i3 => K .nxt ⟨[(0, .pv (.typ (.l25 l0))), (3, .pv (.int .i64 i3))], []⟩) l0 i3 one5 two6 a12 b13 c14 d15 f16 truth17 p4 n8 j9 s10 u11 := by kernel_rfl
theorem cadastrelaw3_LogicExact_j17_ok2 {ρ : Type} (k : Nat) : JoinOK UX (cadastrelaw3_LogicExact_cfg (ρ := ρ) k) (cadastrelaw3_LogicExact_G k) (cadastrelaw3_LogicExact_J.getD 2 .skip) 17 (cadastrelaw3_LogicExact_j17_s k) := by
  intro s K r h
  obtain ⟨env, hp⟩ := s
  unfold cadastrelaw3_LogicExact_j17_s at h
  replace h := popS_inv h; obtain ⟨v1, e2, rfl, h⟩ := h
  replace h := as_l25_inv h; obtain ⟨l0, rfl, h⟩ := h
  replace h := popS_inv h; obtain ⟨v3, e4, rfl, h⟩ := h
  replace h := asI_inv h; obtain ⟨i3, rfl, h⟩ := h
  replace h := popS_inv h; obtain ⟨v5, e6, rfl, h⟩ := h
  replace h := asP_inv h; obtain ⟨rfl, h⟩ := h
  replace h := popS_inv h; obtain ⟨v7, e8, rfl, h⟩ := h
  replace h := asB_inv h; obtain ⟨one5, rfl, h⟩ := h
  replace h := popS_inv h; obtain ⟨v9, e10, rfl, h⟩ := h
  replace h := asB_inv h; obtain ⟨two6, rfl, h⟩ := h
  replace h := popS_inv h; obtain ⟨v11, e12, rfl, h⟩ := h
  replace h := asP_inv h; obtain ⟨rfl, h⟩ := h
  replace h := popS_inv h; obtain ⟨v13, e14, rfl, h⟩ := h
  replace h := asP_inv h; obtain ⟨rfl, h⟩ := h
  replace h := popS_inv h; obtain ⟨v15, e16, rfl, h⟩ := h
  replace h := asP_inv h; obtain ⟨rfl, h⟩ := h
  replace h := popS_inv h; obtain ⟨v17, e18, rfl, h⟩ := h
  replace h := asP_inv h; obtain ⟨rfl, h⟩ := h
  replace h := popS_inv h; obtain ⟨v19, e20, rfl, h⟩ := h
  replace h := asI_inv h; obtain ⟨a12, rfl, h⟩ := h
  replace h := popS_inv h; obtain ⟨v21, e22, rfl, h⟩ := h
  replace h := asI_inv h; obtain ⟨b13, rfl, h⟩ := h
  replace h := popS_inv h; obtain ⟨v23, e24, rfl, h⟩ := h
  replace h := asI_inv h; obtain ⟨c14, rfl, h⟩ := h
  replace h := popS_inv h; obtain ⟨v25, e26, rfl, h⟩ := h
  replace h := asI_inv h; obtain ⟨d15, rfl, h⟩ := h
  replace h := popS_inv h; obtain ⟨v27, e28, rfl, h⟩ := h
  replace h := asI_inv h; obtain ⟨f16, rfl, h⟩ := h
  replace h := popS_inv h; obtain ⟨v29, e30, rfl, h⟩ := h
  replace h := asB_inv h; obtain ⟨truth17, rfl, h⟩ := h
  replace h := popN_inv h; obtain ⟨rfl, h⟩ := h
  replace h := popB_inv h; obtain ⟨c31, e32, rfl, h⟩ := h
  replace h := popA_inv h; obtain ⟨v33, c34, rfl, h⟩ := h
  replace h := asI_inv h; obtain ⟨z35, rfl, h⟩ := h
  replace h := popA_inv h; obtain ⟨v36, c37, rfl, h⟩ := h
  replace h := asI_inv h; obtain ⟨z38, rfl, h⟩ := h
  replace h := popA_inv h; obtain ⟨v39, c40, rfl, h⟩ := h
  replace h := asS_inv h; obtain ⟨z41, rfl, h⟩ := h
  replace h := popA_inv h; obtain ⟨v42, c43, rfl, h⟩ := h
  replace h := asI_inv h; obtain ⟨z44, rfl, h⟩ := h
  replace h := popA_inv h; obtain ⟨v45, c46, rfl, h⟩ := h
  replace h := asI_inv h; obtain ⟨z47, rfl, h⟩ := h
  replace h := popA_inv h; obtain ⟨v48, c49, rfl, h⟩ := h
  replace h := asS_inv h; obtain ⟨z50, rfl, h⟩ := h
  replace h := popA_inv h; obtain ⟨v51, c52, rfl, h⟩ := h
  replace h := asI_inv h; obtain ⟨z53, rfl, h⟩ := h
  replace h := popN_inv h; obtain ⟨rfl, h⟩ := h
  replace h := popB_inv h; obtain ⟨c54, e55, rfl, h⟩ := h
  replace h := popA_inv h; obtain ⟨v56, c57, rfl, h⟩ := h
  replace h := asI_inv h; obtain ⟨z58, rfl, h⟩ := h
  replace h := popA_inv h; obtain ⟨v59, c60, rfl, h⟩ := h
  replace h := asI_inv h; obtain ⟨z61, rfl, h⟩ := h
  replace h := popA_inv h; obtain ⟨v62, c63, rfl, h⟩ := h
  replace h := asS_inv h; obtain ⟨z64, rfl, h⟩ := h
  replace h := popN_inv h; obtain ⟨rfl, h⟩ := h
  replace h := popB_inv h; obtain ⟨c65, e66, rfl, h⟩ := h
  replace h := popA_inv h; obtain ⟨v67, c68, rfl, h⟩ := h
  replace h := asI_inv h; obtain ⟨z69, rfl, h⟩ := h
  replace h := popA_inv h; obtain ⟨v70, c71, rfl, h⟩ := h
  replace h := asI_inv h; obtain ⟨z72, rfl, h⟩ := h
  replace h := popA_inv h; obtain ⟨v73, c74, rfl, h⟩ := h
  replace h := asS_inv h; obtain ⟨z75, rfl, h⟩ := h
  replace h := popN_inv h; obtain ⟨rfl, h⟩ := h
  replace h := popB_inv h; obtain ⟨c76, e77, rfl, h⟩ := h
  replace h := popA_inv h; obtain ⟨v78, c79, rfl, h⟩ := h
  replace h := asI_inv h; obtain ⟨z80, rfl, h⟩ := h
  replace h := popA_inv h; obtain ⟨v81, c82, rfl, h⟩ := h
  replace h := asI_inv h; obtain ⟨z83, rfl, h⟩ := h
  replace h := popA_inv h; obtain ⟨v84, c85, rfl, h⟩ := h
  replace h := asS_inv h; obtain ⟨z86, rfl, h⟩ := h
  replace h := popN_inv h; obtain ⟨rfl, h⟩ := h
  replace h := popB_inv h; obtain ⟨c87, e88, rfl, h⟩ := h
  replace h := popA_inv h; obtain ⟨v89, c90, rfl, h⟩ := h
  replace h := asI_inv h; obtain ⟨z91, rfl, h⟩ := h
  replace h := popA_inv h; obtain ⟨v92, c93, rfl, h⟩ := h
  replace h := asI_inv h; obtain ⟨z94, rfl, h⟩ := h
  replace h := popA_inv h; obtain ⟨v95, c96, rfl, h⟩ := h
  replace h := asS_inv h; obtain ⟨z97, rfl, h⟩ := h
  replace h := popN_inv h; obtain ⟨rfl, h⟩ := h
  replace h := popN_inv h; obtain ⟨rfl, h⟩ := h
  exact (cadastrelaw3_LogicExact_j17_eq2 k K l0 i3 one5 two6 a12 b13 c14 d15 f16 truth17 (⟨(⟨z35, z38, z41⟩ : S23), (⟨z44, z47, z50⟩ : S23), z53⟩ : S25) (⟨z58, z61, z64⟩ : S23) (⟨z69, z72, z75⟩ : S23) (⟨z80, z83, z86⟩ : S23) (⟨z91, z94, z97⟩ : S23)).trans h
theorem cadastrelaw3_LogicExact_j19_eq3 {ρ : Type} (k : Nat) (K : Ex → St UU → Option ρ) (l0 : List S25) (i3 : Int) (one5 : Bool) (two6 : Bool) (a12 : Int) (b13 : Int) (c14 : Int) (d15 : Int) (f16 : Int) (truth17 : Bool) (p4 : S25) (n8 : S23) (j9 : S23) (s10 : S23) (u11 : S23) : exec UX (cadastrelaw3_LogicExact_cfg k) (cadastrelaw3_LogicExact_G k) (cadastrelaw3_LogicExact_J.getD 3 .skip) ⟨[(0, .pv (.typ (.l25 l0))), (3, .pv (.int .i64 i3)), (4, .ptr 4 0), (5, .pv (.bool one5)), (6, .pv (.bool two6)), (8, .ptr 8 0), (9, .ptr 9 0), (10, .ptr 10 0), (11, .ptr 11 0), (12, .pv (.int .i64 a12)), (13, .pv (.int .i64 b13)), (14, .pv (.int .i64 c14)), (15, .pv (.int .i64 d15)), (16, .pv (.int .i64 f16)), (17, .pv (.bool truth17))], [(4, [.pv (.int .i64 p4.f0.f0), .pv (.int .i64 p4.f0.f1), .pv (.str p4.f0.f2), .pv (.int .i64 p4.f1.f0), .pv (.int .i64 p4.f1.f1), .pv (.str p4.f1.f2), .pv (.int .i64 p4.f2)]), (8, [.pv (.int .i64 n8.f0), .pv (.int .i64 n8.f1), .pv (.str n8.f2)]), (9, [.pv (.int .i64 j9.f0), .pv (.int .i64 j9.f1), .pv (.str j9.f2)]), (10, [.pv (.int .i64 s10.f0), .pv (.int .i64 s10.f1), .pv (.str s10.f2)]), (11, [.pv (.int .i64 u11.f0), .pv (.int .i64 u11.f1), .pv (.str u11.f2)])]⟩ (nrmK UX (cadastrelaw3_LogicExact_cfg k) 19 K) = cadastrelaw3_LogicExact_j19 k (fun t2 => K .ret ⟨[(2, .pv (.bool t2))], []⟩) (fun l0 i3 => K .nxt ⟨[(0, .pv (.typ (.l25 l0))), (3, .pv (.int .i64 i3))], []⟩) l0 i3 one5 two6 a12 b13 c14 d15 f16 truth17 p4 n8 j9 s10 u11 := by kernel_rfl
theorem cadastrelaw3_LogicExact_j19_ok3 {ρ : Type} (k : Nat) : JoinOK UX (cadastrelaw3_LogicExact_cfg (ρ := ρ) k) (cadastrelaw3_LogicExact_G k) (cadastrelaw3_LogicExact_J.getD 3 .skip) 19 (cadastrelaw3_LogicExact_j19_s k) := by
  intro s K r h
  obtain ⟨env, hp⟩ := s
  unfold cadastrelaw3_LogicExact_j19_s at h
  replace h := popS_inv h; obtain ⟨v1, e2, rfl, h⟩ := h
  replace h := as_l25_inv h; obtain ⟨l0, rfl, h⟩ := h
  replace h := popS_inv h; obtain ⟨v3, e4, rfl, h⟩ := h
  replace h := asI_inv h; obtain ⟨i3, rfl, h⟩ := h
  replace h := popS_inv h; obtain ⟨v5, e6, rfl, h⟩ := h
  replace h := asP_inv h; obtain ⟨rfl, h⟩ := h
  replace h := popS_inv h; obtain ⟨v7, e8, rfl, h⟩ := h
  replace h := asB_inv h; obtain ⟨one5, rfl, h⟩ := h
  replace h := popS_inv h; obtain ⟨v9, e10, rfl, h⟩ := h
  replace h := asB_inv h; obtain ⟨two6, rfl, h⟩ := h
  replace h := popS_inv h; obtain ⟨v11, e12, rfl, h⟩ := h
  replace h := asP_inv h; obtain ⟨rfl, h⟩ := h
  replace h := popS_inv h; obtain ⟨v13, e14, rfl, h⟩ := h
  replace h := asP_inv h; obtain ⟨rfl, h⟩ := h
  replace h := popS_inv h; obtain ⟨v15, e16, rfl, h⟩ := h
  replace h := asP_inv h; obtain ⟨rfl, h⟩ := h
  replace h := popS_inv h; obtain ⟨v17, e18, rfl, h⟩ := h
  replace h := asP_inv h; obtain ⟨rfl, h⟩ := h
  replace h := popS_inv h; obtain ⟨v19, e20, rfl, h⟩ := h
  replace h := asI_inv h; obtain ⟨a12, rfl, h⟩ := h
  replace h := popS_inv h; obtain ⟨v21, e22, rfl, h⟩ := h
  replace h := asI_inv h; obtain ⟨b13, rfl, h⟩ := h
  replace h := popS_inv h; obtain ⟨v23, e24, rfl, h⟩ := h
  replace h := asI_inv h; obtain ⟨c14, rfl, h⟩ := h
  replace h := popS_inv h; obtain ⟨v25, e26, rfl, h⟩ := h
  replace h := asI_inv h; obtain ⟨d15, rfl, h⟩ := h
  replace h := popS_inv h; obtain ⟨v27, e28, rfl, h⟩ := h
  replace h := asI_inv h; obtain ⟨f16, rfl, h⟩ := h
  replace h := popS_inv h; obtain ⟨v29, e30, rfl, h⟩ := h
  replace h := asB_inv h; obtain ⟨truth17, rfl, h⟩ := h
  replace h := popN_inv h; obtain ⟨rfl, h⟩ := h
  replace h := popB_inv h; obtain ⟨c31, e32, rfl, h⟩ := h
  replace h := popA_inv h; obtain ⟨v33, c34, rfl, h⟩ := h
  replace h := asI_inv h; obtain ⟨z35, rfl, h⟩ := h
  replace h := popA_inv h; obtain ⟨v36, c37, rfl, h⟩ := h
  replace h := asI_inv h; obtain ⟨z38, rfl, h⟩ := h
  replace h := popA_inv h; obtain ⟨v39, c40, rfl, h⟩ := h
  replace h := asS_inv h; obtain ⟨z41, rfl, h⟩ := h
  replace h := popA_inv h; obtain ⟨v42, c43, rfl, h⟩ := h
  replace h := asI_inv h; obtain ⟨z44, rfl, h⟩ := h
  replace h := popA_inv h; obtain ⟨v45, c46, rfl, h⟩ := h
  replace h := asI_inv h; obtain ⟨z47, rfl, h⟩ := h
  replace h := popA_inv h; obtain ⟨v48, c49, rfl, h⟩ := h
  replace h := asS_inv h; obtain ⟨z50, rfl, h⟩ := h
  replace h := popA_inv h; obtain ⟨v51, c52, rfl, h⟩ := h
  replace h := asI_inv h; obtain ⟨z53, rfl, h⟩ := h
  replace h := popN_inv h; obtain ⟨rfl, h⟩ := h
  replace h := popB_inv h; obtain ⟨c54, e55, rfl, h⟩ := h
  replace h := popA_inv h; obtain ⟨v56, c57, rfl, h⟩ := h
  replace h := asI_inv h; obtain ⟨z58, rfl, h⟩ := h
  replace h := popA_inv h; obtain ⟨v59, c60, rfl, h⟩ := h
  replace h := asI_inv h; obtain ⟨z61, rfl, h⟩ := h
  replace h := popA_inv h; obtain ⟨v62, c63, rfl, h⟩ := h
  replace h := asS_inv h; obtain ⟨z64, rfl, h⟩ := h
  replace h := popN_inv h; obtain ⟨rfl, h⟩ := h
  replace h := popB_inv h; obtain ⟨c65, e66, rfl, h⟩ := h
  replace h := popA_inv h; obtain ⟨v67, c68, rfl, h⟩ := h
  replace h := asI_inv h; obtain ⟨z69, rfl, h⟩ := h
  replace h := popA_inv h; obtain ⟨v70, c71, rfl, h⟩ := h
  replace h := asI_inv h; obtain ⟨z72, rfl, h⟩ := h
  replace h := popA_inv h; obtain ⟨v73, c74, rfl, h⟩ := h
  replace h := asS_inv h; obtain ⟨z75, rfl, h⟩ := h
  replace h := popN_inv h; obtain ⟨rfl, h⟩ := h
  replace h := popB_inv h; obtain ⟨c76, e77, rfl, h⟩ := h
  replace h := popA_inv h; obtain ⟨v78, c79, rfl, h⟩ := h
  replace h := asI_inv h; obtain ⟨z80, rfl, h⟩ := h
  replace h := popA_inv h; obtain ⟨v81, c82, rfl, h⟩ := h
  replace h := asI_inv h; obtain ⟨z83, rfl, h⟩ := h
  replace h := popA_inv h; obtain ⟨v84, c85, rfl, h⟩ := h
  replace h := asS_inv h; obtain ⟨z86, rfl, h⟩ := h
  replace h := popN_inv h; obtain ⟨rfl, h⟩ := h
  replace h := popB_inv h; obtain ⟨c87, e88, rfl, h⟩ := h
  replace h := popA_inv h; obtain ⟨v89, c90, rfl, h⟩ := h
  replace h := asI_inv h; obtain ⟨z91, rfl, h⟩ := h
  replace h := popA_inv h; obtain ⟨v92, c93, rfl, h⟩ := h
  replace h := asI_inv h; obtain ⟨z94, rfl, h⟩ := h
  replace h := popA_inv h; obtain ⟨v95, c96, rfl, h⟩ := h
  replace h := asS_inv h; obtain ⟨z97, rfl, h⟩ := h
  replace h := popN_inv h; obtain ⟨rfl, h⟩ := h
  replace h := popN_inv h; obtain ⟨rfl, h⟩ := h
  exact (cadastrelaw3_LogicExact_j19_eq3 k K l0 i3 one5 two6 a12 b13 c14 d15 f16 truth17 (⟨(⟨z35, z38, z41⟩ : S23), (⟨z44, z47, z50⟩ : S23), z53⟩ : S25) (⟨z58, z61, z64⟩ : S23) (⟨z69, z72, z75⟩ : S23) (⟨z80, z83, z86⟩ : S23) (⟨z91, z94, z97⟩ : S23)).trans h
theorem cadastrelaw3_LogicExact_j18_eq4 {ρ : Type} (k : Nat) (K : Ex → St UU → Option ρ) (l0 : List S25) (i3 : Int) (one5 : Bool) (two6 : Bool) (a12 : Int) (b13 : Int) (d15 : Int) (f16 : Int) (truth17 : Bool) (p4 : S25) (n8 : S23) (j9 : S23) (s10 : S23) (u11 : S23) : exec UX (cadastrelaw3_LogicExact_cfg k) (cadastrelaw3_LogicExact_G k) (cadastrelaw3_LogicExact_J.getD 4 .skip) ⟨[(0, .pv (.typ (.l25 l0))), (3, .pv (.int .i64 i3)), (4, .ptr 4 0), (5, .pv (.bool one5)), (6, .pv (.bool two6)), (8, .ptr 8 0), (9, .ptr 9 0), (10, .ptr 10 0), (11, .ptr 11 0), (12, .pv (.int .i64 a12)), (13, .pv (.int .i64 b13)), (15, .pv (.int .i64 d15)), (16, .pv (.int .i64 f16)), (17, .pv (.bool truth17))], [(4, [.pv (.int .i64 p4.f0.f0), .pv (.int .i64 p4.f0.f1), .pv (.str p4.f0.f2), .pv (.int .i64 p4.f1.f0), .pv (.int .i64 p4.f1.f1), .pv (.str p4.f1.f2), .pv (.int .i64 p4.f2)]), (8, [.pv (.int .i64 n8.f0), .pv (.int .i64 n8.f1), .pv (.str n8.f2)]), (9, [.pv (.int .i64 j9.f0), .pv (.int .i64 j9.f1), .pv (.str j9.f2)]), (10, [.pv (.int .i64 s10.f0), .pv (.int .i64 s10.f1), .pv (.str s10.f2)]), (11, [.pv (.int .i64 u11.f0), .pv (.int .i64 u11.f1), .pv (.str u11.f2)])]⟩ (nrmK UX (cadastrelaw3_LogicExact_cfg k) 18 K) = cadastrelaw3_LogicExact_j18 k (fun l0 i3 one5 two6 a12 b13 c14 d15 f16 truth17 p4 n8 j9 s10 u11 => K .nxt ⟨[(0, .pv (.typ (.l25 l0))), (3, .pv (.int .i64 i3)), (4, .ptr 4 0), (5, .pv (.bool one5)), (6, .pv (.bool two6)), (8, .ptr 8 0), (9, .ptr 9 0), (10, .ptr 10 0), (11, .ptr 11 0), (12, .pv (.int .i64 a12)), (13, .pv (.int .i64 b13)), (14, .pv (.int .i64 c14)), (15, .pv (.int .i64 d15)), (16, .pv (.int .i64 f16)), (17, .pv (.bool truth17))], [(4, [.pv (.int .i64 p4.f0.f0), .pv (.int .i64 p4.f0.f1), .pv (.str p4.f0.f2), .pv (.int .i64 p4.f1.f0), .pv (.int .i64 p4.f1.f1), .pv (.str p4.f1.f2), .pv (.int .i64 p4.f2)]), (8, [.pv (.int .i64 n8.f0), .pv (.int .i64 n8.f1), .pv (.str n8.f2)]), (9, [.pv (.int .i64 j9.f0), .pv (.int .i64 j9.f1), .pv (.str j9.f2)]), (10, [.pv (.int .i64 s10.f0), .pv (.int .i64 s10.f1), .pv (.str s10.f2)]), (11, [.pv (.int .i64 u11.f0), .pv (.int .i64 u11.f1), .pv (.str u11.f2)])]⟩) l0 i3 one5 two6 a12 b13 d15 f16 truth17 p4 n8 j9 s10 u11 := by kernel_rfl
theorem cadastrelaw3_LogicExact_j18_ok4 {ρ : Type} (k : Nat) : JoinOK UX (cadastrelaw3_LogicExact_cfg (ρ := ρ) k) (cadastrelaw3_LogicExact_G k) (cadastrelaw3_LogicExact_J.getD 4 .skip) 18 (cadastrelaw3_LogicExact_j18_s k) := by
  intro s K r h
  obtain ⟨env, hp⟩ := s
  unfold cadastrelaw3_LogicExact_j18_s at h
  replace h := popS_inv h; obtain ⟨v1, e2, rfl, h⟩ := h
  replace h := as_l25_inv h; obtain ⟨l0, rfl, h⟩ := h
  replace h := popS_inv h; obtain ⟨v3, e4, rfl, h⟩ := h
  replace h := asI_inv h; obtain ⟨i3, rfl, h⟩ := h
  replace h := popS_inv h; obtain ⟨v5, e6, rfl, h⟩ := h
  replace h := asP_inv h; obtain ⟨rfl, h⟩ := h
  replace h := popS_inv h; obtain ⟨v7, e8, rfl, h⟩ := h
  replace h := asB_inv h; obtain ⟨one5, rfl, h⟩ := h
  replace h := popS_inv h; obtain ⟨v9, e10, rfl, h⟩ := h
  replace h := asB_inv h; obtain ⟨two6, rfl, h⟩ := h
  replace h := popS_inv h; obtain ⟨v11, e12, rfl, h⟩ := h
  replace h := asP_inv h; obtain ⟨rfl, h⟩ := h
  replace h := popS_inv h; obtain ⟨v13, e14, rfl, h⟩ := h
  replace h := asP_inv h; obtain ⟨rfl, h⟩ := h
  replace h := popS_inv h; obtain ⟨v15, e16, rfl, h⟩ := h
  replace h := asP_inv h; obtain ⟨rfl, h⟩ := h
  replace h := popS_inv h; obtain ⟨v17, e18, rfl, h⟩ := h
  replace h := asP_inv h; obtain ⟨rfl, h⟩ := h
  replace h := popS_inv h; obtain ⟨v19, e20, rfl, h⟩ := h
  replace h := asI_inv h; obtain ⟨a12, rfl, h⟩ := h
  replace h := popS_inv h; obtain ⟨v21, e22, rfl, h⟩ := h
  replace h := asI_inv h; obtain ⟨b13, rfl, h⟩ := h
  replace h := popS_inv h; obtain ⟨v23, e24, rfl, h⟩ := h
  replace h := asI_inv h; obtain ⟨d15, rfl, h⟩ := h
  replace h := popS_inv h; obtain ⟨v25, e26, rfl, h⟩ := h
  replace h := asI_inv h; obtain ⟨f16, rfl, h⟩ := h
  replace h := popS_inv h; obtain ⟨v27, e28, rfl, h⟩ := h
  replace h := asB_inv h; obtain ⟨truth17, rfl, h⟩ := h
  replace h := popN_inv h; obtain ⟨rfl, h⟩ := h
  replace h := popB_inv h; obtain ⟨c29, e30, rfl, h⟩ := h
  replace h := popA_inv h; obtain ⟨v31, c32, rfl, h⟩ := h
  replace h := asI_inv h; obtain ⟨z33, rfl, h⟩ := h
  replace h := popA_inv h; obtain ⟨v34, c35, rfl, h⟩ := h
  replace h := asI_inv h; obtain ⟨z36, rfl, h⟩ := h
  replace h := popA_inv h; obtain ⟨v37, c38, rfl, h⟩ := h
  replace h := asS_inv h; obtain ⟨z39, rfl, h⟩ := h
  replace h := popA_inv h; obtain ⟨v40, c41, rfl, h⟩ := h
  replace h := asI_inv h; obtain ⟨z42, rfl, h⟩ := h
  replace h := popA_inv h; obtain ⟨v43, c44, rfl, h⟩ := h
  replace h := asI_inv h; obtain ⟨z45, rfl, h⟩ := h
  replace h := popA_inv h; obtain ⟨v46, c47, rfl, h⟩ := h
  replace h := asS_inv h; obtain ⟨z48, rfl, h⟩ := h
  replace h := popA_inv h; obtain ⟨v49, c50, rfl, h⟩ := h
  replace h := asI_inv h; obtain ⟨z51, rfl, h⟩ := h
  replace h := popN_inv h; obtain ⟨rfl, h⟩ := h
  replace h := popB_inv h; obtain ⟨c52, e53, rfl, h⟩ := h
  replace h := popA_inv h; obtain ⟨v54, c55, rfl, h⟩ := h
  replace h := asI_inv h; obtain ⟨z56, rfl, h⟩ := h
  replace h := popA_inv h; obtain ⟨v57, c58, rfl, h⟩ := h
  replace h := asI_inv h; obtain ⟨z59, rfl, h⟩ := h
  replace h := popA_inv h; obtain ⟨v60, c61, rfl, h⟩ := h
  replace h := asS_inv h; obtain ⟨z62, rfl, h⟩ := h
  replace h := popN_inv h; obtain ⟨rfl, h⟩ := h
  replace h := popB_inv h; obtain ⟨c63, e64, rfl, h⟩ := h
  replace h := popA_inv h; obtain ⟨v65, c66, rfl, h⟩ := h
  replace h := asI_inv h; obtain ⟨z67, rfl, h⟩ := h
  replace h := popA_inv h; obtain ⟨v68, c69, rfl, h⟩ := h
  replace h := asI_inv h; obtain ⟨z70, rfl, h⟩ := h
  replace h := popA_inv h; obtain ⟨v71, c72, rfl, h⟩ := h
  replace h := asS_inv h; obtain ⟨z73, rfl, h⟩ := h
  replace h := popN_inv h; obtain ⟨rfl, h⟩ := h
  replace h := popB_inv h; obtain ⟨c74, e75, rfl, h⟩ := h
  replace h := popA_inv h; obtain ⟨v76, c77, rfl, h⟩ := h
  replace h := asI_inv h; obtain ⟨z78, rfl, h⟩ := h
  replace h := popA_inv h; obtain ⟨v79, c80, rfl, h⟩ := h
  replace h := asI_inv h; obtain ⟨z81, rfl, h⟩ := h
  replace h := popA_inv h; obtain ⟨v82, c83, rfl, h⟩ := h
  replace h := asS_inv h; obtain ⟨z84, rfl, h⟩ := h
  replace h := popN_inv h; obtain ⟨rfl, h⟩ := h
  replace h := popB_inv h; obtain ⟨c85, e86, rfl, h⟩ := h
  replace h := popA_inv h; obtain ⟨v87, c88, rfl, h⟩ := h
  replace h := asI_inv h; obtain ⟨z89, rfl, h⟩ := h
  replace h := popA_inv h; obtain ⟨v90, c91, rfl, h⟩ := h
  replace h := asI_inv h; obtain ⟨z92, rfl, h⟩ := h
  replace h := popA_inv h; obtain ⟨v93, c94, rfl, h⟩ := h
  replace h := asS_inv h; obtain ⟨z95, rfl, h⟩ := h
  replace h := popN_inv h; obtain ⟨rfl, h⟩ := h
  replace h := popN_inv h; obtain ⟨rfl, h⟩ := h
  exact (cadastrelaw3_LogicExact_j18_eq4 k K l0 i3 one5 two6 a12 b13 d15 f16 truth17 (⟨(⟨z33, z36, z39⟩ : S23), (⟨z42, z45, z48⟩ : S23), z51⟩ : S25) (⟨z56, z59, z62⟩ : S23) (⟨z67, z70, z73⟩ : S23) (⟨z78, z81, z84⟩ : S23) (⟨z89, z92, z95⟩ : S23)).trans h
theorem cadastrelaw3_LogicExact_j21_eq5 {ρ : Type} (k : Nat) (K : Ex → St UU → Option ρ) (l0 : List S25) (i3 : Int) (one5 : Bool) (a12 : Int) (b13 : Int) (c14 : Int) (d15 : Int) (f16 : Int) (truth17 : Bool) (p4 : S25) (n8 : S23) (j9 : S23) (s10 : S23) (u11 : S23) : exec UX (cadastrelaw3_LogicExact_cfg k) (cadastrelaw3_LogicExact_G k) (cadastrelaw3_LogicExact_J.getD 5 .skip) ⟨[(0, .pv (.typ (.l25 l0))), (3, .pv (.int .i64 i3)), (4, .ptr 4 0), (5, .pv (.bool one5)), (8, .ptr 8 0), (9, .ptr 9 0), (10, .ptr 10 0), (11, .ptr 11 0), (12, .pv (.int .i64 a12)), (13, .pv (.int .i64 b13)), (14, .pv (.int .i64 c14)), (15, .pv (.int .i64 d15)), (16, .pv (.int .i64 f16)), (17, .pv (.bool truth17))], [(4, [.pv (.int .i64 p4.f0.f0), .pv (.int .i64 p4.f0.f1), .pv (.str p4.f0.f2), .pv (.int .i64 p4.f1.f0), .pv (.int .i64 p4.f1.f1), .pv (.str p4.f1.f2), .pv (.int .i64 p4.f2)]), (8, [.pv (.int .i64 n8.f0), .pv (.int .i64 n8.f1), .pv (.str n8.f2)]), (9, [.pv (.int .i64 j9.f0), .pv (.int .i64 j9.f1), .pv (.str j9.f2)]), (10, [.pv (.int .i64 s10.f0), .pv (.int .i64 s10.f1), .pv (.str s10.f2)]), (11, [.pv (.int .i64 u11.f0), .pv (.int .i64 u11.f1), .pv (.str u11.f2)])]⟩ (nrmK UX (cadastrelaw3_LogicExact_cfg k) 21 K) = cadastrelaw3_LogicExact_j21 k (fun t2 => K .ret ⟨[(2, .pv (.bool t2))], []⟩) (fun l0 i3 => K .nxt ⟨[(0, .pv (.typ (.l25 l0))), (3, .pv (.int .i64 i3))], []⟩) l0 i3 one5 a12 b13 c14 d15 f16 truth17 p4 n8 j9 s10 u11 := by kernel_rfl
theorem cadastrelaw3_LogicExact_j21_ok5 {ρ : Type} (k : Nat) : JoinOK UX (cadastrelaw3_LogicExact_cfg (ρ := ρ) k) (cadastrelaw3_LogicExact_G k) (cadastrelaw3_LogicExact_J.getD 5 .skip) 21 (cadastrelaw3_LogicExact_j21_s k) := by
  intro s K r h
  obtain ⟨env, hp⟩ := s
  unfold cadastrelaw3_LogicExact_j21_s at h
  replace h := popS_inv h; obtain ⟨v1, e2, rfl, h⟩ := h
  replace h := as_l25_inv h; obtain ⟨l0, rfl, h⟩ := h
  replace h := popS_inv h; obtain ⟨v3, e4, rfl, h⟩ := h
  replace h := asI_inv h; obtain ⟨i3, rfl, h⟩ := h
  replace h := popS_inv h; obtain ⟨v5, e6, rfl, h⟩ := h
  replace h := asP_inv h; obtain ⟨rfl, h⟩ := h
  replace h := popS_inv h; obtain ⟨v7, e8, rfl, h⟩ := h
  replace h := asB_inv h; obtain ⟨one5, rfl, h⟩ := h
  replace h := popS_inv h; obtain ⟨v9, e10, rfl, h⟩ := h
  replace h := asP_inv h; obtain ⟨rfl, h⟩ := h
  replace h := popS_inv h; obtain ⟨v11, e12, rfl, h⟩ := h
  replace h := asP_inv h; obtain ⟨rfl, h⟩ := h
  replace h := popS_inv h; obtain ⟨v13, e14, rfl, h⟩ := h
  replace h := asP_inv h; obtain ⟨rfl, h⟩ := h
  replace h := popS_inv h; obtain ⟨v15, e16, rfl, h⟩ := h
  replace h := asP_inv h; obtain ⟨rfl, h⟩ := h
  replace h := popS_inv h; obtain ⟨v17, e18, rfl, h⟩ := h
  replace h := asI_inv h; obtain ⟨a12, rfl, h⟩ := h
  replace h := popS_inv h; obtain ⟨v19, e20, rfl, h⟩ := h
  replace h := asI_inv h; obtain ⟨b13, rfl, h⟩ := h
  replace h := popS_inv h; obtain ⟨v21, e22, rfl, h⟩ := h
  replace h := asI_inv h; obtain ⟨c14, rfl, h⟩ := h
  replace h := popS_inv h; obtain ⟨v23, e24, rfl, h⟩ := h
  replace h := asI_inv h; obtain ⟨d15, rfl, h⟩ := h
  replace h := popS_inv h; obtain ⟨v25, e26, rfl, h⟩ := h
  replace h := asI_inv h; obtain ⟨f16, rfl, h⟩ := h
  replace h := popS_inv h; obtain ⟨v27, e28, rfl, h⟩ := h
  replace h := asB_inv h; obtain ⟨truth17, rfl, h⟩ := h
  replace h := popN_inv h; obtain ⟨rfl, h⟩ := h
  replace h := popB_inv h; obtain ⟨c29, e30, rfl, h⟩ := h
  replace h := popA_inv h; obtain ⟨v31, c32, rfl, h⟩ := h
  replace h := asI_inv h; obtain ⟨z33, rfl, h⟩ := h
  replace h := popA_inv h; obtain ⟨v34, c35, rfl, h⟩ := h
  replace h := asI_inv h; obtain ⟨z36, rfl, h⟩ := h
  replace h := popA_inv h; obtain ⟨v37, c38, rfl, h⟩ := h
  replace h := asS_inv h; obtain ⟨z39, rfl, h⟩ := h
  replace h := popA_inv h; obtain ⟨v40, c41, rfl, h⟩ := h
  replace h := asI_inv h; obtain ⟨z42, rfl, h⟩ := h
  replace h := popA_inv h; obtain ⟨v43, c44, rfl, h⟩ := h
  replace h := asI_inv h; obtain ⟨z45, rfl, h⟩ := h
  replace h := popA_inv h; obtain ⟨v46, c47, rfl, h⟩ := h
  replace h := asS_inv h; obtain ⟨z48, rfl, h⟩ := h
  replace h := popA_inv h; obtain ⟨v49, c50, rfl, h⟩ := h
  replace h := asI_inv h; obtain ⟨z51, rfl, h⟩ := h
  replace h := popN_inv h; obtain ⟨rfl, h⟩ := h
  replace h := popB_inv h; obtain ⟨c52, e53, rfl, h⟩ := h
  replace h := popA_inv h; obtain ⟨v54, c55, rfl, h⟩ := h
  replace h := asI_inv h; obtain ⟨z56, rfl, h⟩ := h
  replace h := popA_inv h; obtain ⟨v57, c58, rfl, h⟩ := h
  replace h := asI_inv h; obtain ⟨z59, rfl, h⟩ := h
  replace h := popA_inv h; obtain ⟨v60, c61, rfl, h⟩ := h
  replace h := asS_inv h; obtain ⟨z62, rfl, h⟩ := h
  replace h := popN_inv h; obtain ⟨rfl, h⟩ := h
  replace h := popB_inv h; obtain ⟨c63, e64, rfl, h⟩ := h
  replace h := popA_inv h; obtain ⟨v65, c66, rfl, h⟩ := h
  replace h := asI_inv h; obtain ⟨z67, rfl, h⟩ := h
  replace h := popA_inv h; obtain ⟨v68, c69, rfl, h⟩ := h
  replace h := asI_inv h; obtain ⟨z70, rfl, h⟩ := h
  replace h := popA_inv h; obtain ⟨v71, c72, rfl, h⟩ := h
  replace h := asS_inv h; obtain ⟨z73, rfl, h⟩ := h
  replace h := popN_inv h; obtain ⟨rfl, h⟩ := h
  replace h := popB_inv h; obtain ⟨c74, e75, rfl, h⟩ := h
  replace h := popA_inv h; obtain ⟨v76, c77, rfl, h⟩ := h
  replace h := asI_inv h; obtain ⟨z78, rfl, h⟩ := h
  replace h := popA_inv h; obtain ⟨v79, c80, rfl, h⟩ := h
  replace h := asI_inv h; obtain ⟨z81, rfl, h⟩ := h
  replace h := popA_inv h; obtain ⟨v82, c83, rfl, h⟩ := h
  replace h := asS_inv h; obtain ⟨z84, rfl, h⟩ := h
  replace h := popN_inv h; obtain ⟨rfl, h⟩ := h
  replace h := popB_inv h; obtain ⟨c85, e86, rfl, h⟩ := h
  replace h := popA_inv h; obtain ⟨v87, c88, rfl, h⟩ := h
  replace h := asI_inv h; obtain ⟨z89, rfl, h⟩ := h
  replace h := popA_inv h; obtain ⟨v90, c91, rfl, h⟩ := h
  replace h := asI_inv h; obtain ⟨z92, rfl, h⟩ := h
  replace h := popA_inv h; obtain ⟨v93, c94, rfl, h⟩ := h
  replace h := asS_inv h; obtain ⟨z95, rfl, h⟩ := h
  replace h := popN_inv h; obtain ⟨rfl, h⟩ := h
  replace h := popN_inv h; obtain ⟨rfl, h⟩ := h
  exact (cadastrelaw3_LogicExact_j21_eq5 k K l0 i3 one5 a12 b13 c14 d15 f16 truth17 (⟨(⟨z33, z36, z39⟩ : S23), (⟨z42, z45, z48⟩ : S23), z51⟩ : S25) (⟨z56, z59, z62⟩ : S23) (⟨z67, z70, z73⟩ : S23) (⟨z78, z81, z84⟩ : S23) (⟨z89, z92, z95⟩ : S23)).trans h
theorem cadastrelaw3_LogicExact_j23_eq6 {ρ : Type} (k : Nat) (K : Ex → St UU → Option ρ) (l0 : List S25) (i3 : Int) (a12 : Int) (b13 : Int) (c14 : Int) (d15 : Int) (f16 : Int) (truth17 : Bool) (p4 : S25) (n8 : S23) (j9 : S23) (s10 : S23) (u11 : S23) : exec UX (cadastrelaw3_LogicExact_cfg k) (cadastrelaw3_LogicExact_G k) (cadastrelaw3_LogicExact_J.getD 6 .skip) ⟨[(0, .pv (.typ (.l25 l0))), (3, .pv (.int .i64 i3)), (4, .ptr 4 0), (8, .ptr 8 0), (9, .ptr 9 0), (10, .ptr 10 0), (11, .ptr 11 0), (12, .pv (.int .i64 a12)), (13, .pv (.int .i64 b13)), (14, .pv (.int .i64 c14)), (15, .pv (.int .i64 d15)), (16, .pv (.int .i64 f16)), (17, .pv (.bool truth17))], [(4, [.pv (.int .i64 p4.f0.f0), .pv (.int .i64 p4.f0.f1), .pv (.str p4.f0.f2), .pv (.int .i64 p4.f1.f0), .pv (.int .i64 p4.f1.f1), .pv (.str p4.f1.f2), .pv (.int .i64 p4.f2)]), (8, [.pv (.int .i64 n8.f0), .pv (.int .i64 n8.f1), .pv (.str n8.f2)]), (9, [.pv (.int .i64 j9.f0), .pv (.int .i64 j9.f1), .pv (.str j9.f2)]), (10, [.pv (.int .i64 s10.f0), .pv (.int .i64 s10.f1), .pv (.str s10.f2)]), (11, [.pv (.int .i64 u11.f0), .pv (.int .i64 u11.f1), .pv (.str u11.f2)])]⟩ (nrmK UX (cadastrelaw3_LogicExact_cfg k) 23 K) = cadastrelaw3_LogicExact_j23 k (fun t2 => K .ret ⟨[(2, .pv (.bool t2))], []⟩) (fun l0 i3 => K .nxt ⟨[(0, .pv (.typ (.l25 l0))), (3, .pv (.int .i64 i3))], []⟩) l0 i3 a12 b13 c14 d15 f16 truth17 p4 n8 j9 s10 u11 := by kernel_rfl
theorem cadastrelaw3_LogicExact_j23_ok6 {ρ : Type} (k : Nat) : JoinOK UX (cadastrelaw3_LogicExact_cfg (ρ := ρ) k) (cadastrelaw3_LogicExact_G k) (cadastrelaw3_LogicExact_J.getD 6 .skip) 23 (cadastrelaw3_LogicExact_j23_s k) := by
  intro s K r h
  obtain ⟨env, hp⟩ := s
  unfold cadastrelaw3_LogicExact_j23_s at h
  replace h := popS_inv h; obtain ⟨v1, e2, rfl, h⟩ := h
  replace h := as_l25_inv h; obtain ⟨l0, rfl, h⟩ := h
  replace h := popS_inv h; obtain ⟨v3, e4, rfl, h⟩ := h
  replace h := asI_inv h; obtain ⟨i3, rfl, h⟩ := h
  replace h := popS_inv h; obtain ⟨v5, e6, rfl, h⟩ := h
  replace h := asP_inv h; obtain ⟨rfl, h⟩ := h
  replace h := popS_inv h; obtain ⟨v7, e8, rfl, h⟩ := h
  replace h := asP_inv h; obtain ⟨rfl, h⟩ := h
  replace h := popS_inv h; obtain ⟨v9, e10, rfl, h⟩ := h
  replace h := asP_inv h; obtain ⟨rfl, h⟩ := h
  replace h := popS_inv h; obtain ⟨v11, e12, rfl, h⟩ := h
  replace h := asP_inv h; obtain ⟨rfl, h⟩ := h
  replace h := popS_inv h; obtain ⟨v13, e14, rfl, h⟩ := h
  replace h := asP_inv h; obtain ⟨rfl, h⟩ := h
  replace h := popS_inv h; obtain ⟨v15, e16, rfl, h⟩ := h
  replace h := asI_inv h; obtain ⟨a12, rfl, h⟩ := h
  replace h := popS_inv h; obtain ⟨v17, e18, rfl, h⟩ := h
  replace h := asI_inv h; obtain ⟨b13, rfl, h⟩ := h
  replace h := popS_inv h; obtain ⟨v19, e20, rfl, h⟩ := h
  replace h := asI_inv h; obtain ⟨c14, rfl, h⟩ := h
  replace h := popS_inv h; obtain ⟨v21, e22, rfl, h⟩ := h
  replace h := asI_inv h; obtain ⟨d15, rfl, h⟩ := h
  replace h := popS_inv h; obtain ⟨v23, e24, rfl, h⟩ := h
  replace h := asI_inv h; obtain ⟨f16, rfl, h⟩ := h
  replace h := popS_inv h; obtain ⟨v25, e26, rfl, h⟩ := h
  replace h := asB_inv h; obtain ⟨truth17, rfl, h⟩ := h
  replace h := popN_inv h; obtain ⟨rfl, h⟩ := h
  replace h := popB_inv h; obtain ⟨c27, e28, rfl, h⟩ := h
  replace h := popA_inv h; obtain ⟨v29, c30, rfl, h⟩ := h
  replace h := asI_inv h; obtain ⟨z31, rfl, h⟩ := h
  replace h := popA_inv h; obtain ⟨v32, c33, rfl, h⟩ := h
  replace h := asI_inv h; obtain ⟨z34, rfl, h⟩ := h
  replace h := popA_inv h; obtain ⟨v35, c36, rfl, h⟩ := h
  replace h := asS_inv h; obtain ⟨z37, rfl, h⟩ := h
  replace h := popA_inv h; obtain ⟨v38, c39, rfl, h⟩ := h
  replace h := asI_inv h; obtain ⟨z40, rfl, h⟩ := h
  replace h := popA_inv h; obtain ⟨v41, c42, rfl, h⟩ := h
  replace h := asI_inv h; obtain ⟨z43, rfl, h⟩ := h
  replace h := popA_inv h; obtain ⟨v44, c45, rfl, h⟩ := h
  replace h := asS_inv h; obtain ⟨z46, rfl, h⟩ := h
  replace h := popA_inv h; obtain ⟨v47, c48, rfl, h⟩ := h
  replace h := asI_inv h; obtain ⟨z49, rfl, h⟩ := h
  replace h := popN_inv h; obtain ⟨rfl, h⟩ := h
  replace h := popB_inv h; obtain ⟨c50, e51, rfl, h⟩ := h
  replace h := popA_inv h; obtain ⟨v52, c53, rfl, h⟩ := h
  replace h := asI_inv h; obtain ⟨z54, rfl, h⟩ := h
  replace h := popA_inv h; obtain ⟨v55, c56, rfl, h⟩ := h
  replace h := asI_inv h; obtain ⟨z57, rfl, h⟩ := h
  replace h := popA_inv h; obtain ⟨v58, c59, rfl, h⟩ := h
  replace h := asS_inv h; obtain ⟨z60, rfl, h⟩ := h
  replace h := popN_inv h; obtain ⟨rfl, h⟩ := h
  replace h := popB_inv h; obtain ⟨c61, e62, rfl, h⟩ := h
  replace h := popA_inv h; obtain ⟨v63, c64, rfl, h⟩ := h
  replace h := asI_inv h; obtain ⟨z65, rfl, h⟩ := h
  replace h := popA_inv h; obtain ⟨v66, c67, rfl, h⟩ := h
  replace h := asI_inv h; obtain ⟨z68, rfl, h⟩ := h
  replace h := popA_inv h; obtain ⟨v69, c70, rfl, h⟩ := h
  replace h := asS_inv h; obtain ⟨z71, rfl, h⟩ := h
  replace h := popN_inv h; obtain ⟨rfl, h⟩ := h
  replace h := popB_inv h; obtain ⟨c72, e73, rfl, h⟩ := h
  replace h := popA_inv h; obtain ⟨v74, c75, rfl, h⟩ := h
  replace h := asI_inv h; obtain ⟨z76, rfl, h⟩ := h
  replace h := popA_inv h; obtain ⟨v77, c78, rfl, h⟩ := h
  replace h := asI_inv h; obtain ⟨z79, rfl, h⟩ := h
  replace h := popA_inv h; obtain ⟨v80, c81, rfl, h⟩ := h
  replace h := asS_inv h; obtain ⟨z82, rfl, h⟩ := h
  replace h := popN_inv h; obtain ⟨rfl, h⟩ := h
  replace h := popB_inv h; obtain ⟨c83, e84, rfl, h⟩ := h
  replace h := popA_inv h; obtain ⟨v85, c86, rfl, h⟩ := h
  replace h := asI_inv h; obtain ⟨z87, rfl, h⟩ := h
  replace h := popA_inv h; obtain ⟨v88, c89, rfl, h⟩ := h
  replace h := asI_inv h; obtain ⟨z90, rfl, h⟩ := h
  replace h := popA_inv h; obtain ⟨v91, c92, rfl, h⟩ := h
  replace h := asS_inv h; obtain ⟨z93, rfl, h⟩ := h
  replace h := popN_inv h; obtain ⟨rfl, h⟩ := h
  replace h := popN_inv h; obtain ⟨rfl, h⟩ := h
  exact (cadastrelaw3_LogicExact_j23_eq6 k K l0 i3 a12 b13 c14 d15 f16 truth17 (⟨(⟨z31, z34, z37⟩ : S23), (⟨z40, z43, z46⟩ : S23), z49⟩ : S25) (⟨z54, z57, z60⟩ : S23) (⟨z65, z68, z71⟩ : S23) (⟨z76, z79, z82⟩ : S23) (⟨z87, z90, z93⟩ : S23)).trans h
theorem cadastrelaw3_LogicExact_j26_eq7 {ρ : Type} (k : Nat) (K : Ex → St UU → Option ρ) (l0 : List S25) (i3 : Int) (b13 : Int) (c14 : Int) (d15 : Int) (f16 : Int) (p4 : S25) (n8 : S23) (j9 : S23) (s10 : S23) (u11 : S23) : exec UX (cadastrelaw3_LogicExact_cfg k) (cadastrelaw3_LogicExact_G k) (cadastrelaw3_LogicExact_J.getD 7 .skip) ⟨[(0, .pv (.typ (.l25 l0))), (3, .pv (.int .i64 i3)), (4, .ptr 4 0), (8, .ptr 8 0), (9, .ptr 9 0), (10, .ptr 10 0), (11, .ptr 11 0), (13, .pv (.int .i64 b13)), (14, .pv (.int .i64 c14)), (15, .pv (.int .i64 d15)), (16, .pv (.int .i64 f16))], [(4, [.pv (.int .i64 p4.f0.f0), .pv (.int .i64 p4.f0.f1), .pv (.str p4.f0.f2), .pv (.int .i64 p4.f1.f0), .pv (.int .i64 p4.f1.f1), .pv (.str p4.f1.f2), .pv (.int .i64 p4.f2)]), (8, [.pv (.int .i64 n8.f0), .pv (.int .i64 n8.f1), .pv (.str n8.f2)]), (9, [.pv (.int .i64 j9.f0), .pv (.int .i64 j9.f1), .pv (.str j9.f2)]), (10, [.pv (.int .i64 s10.f0), .pv (.int .i64 s10.f1), .pv (.str s10.f2)]), (11, [.pv (.int .i64 u11.f0), .pv (.int .i64 u11.f1), .pv (.str u11.f2)])]⟩ (nrmK UX (cadastrelaw3_LogicExact_cfg k) 26 K) = cadastrelaw3_LogicExact_j26 k (fun t2 => K .ret ⟨[(2, .pv (.bool t2))], []⟩) (fun l0 i3 => K .nxt ⟨[(0, .pv (.typ (.l25 l0))), (3, .pv (.int .i64 i3))], []⟩) l0 i3 b13 c14 d15 f16 p4 n8 j9 s10 u11 := by kernel_rfl
theorem cadastrelaw3_LogicExact_j26_ok7 {ρ : Type} (k : Nat) : JoinOK UX (cadastrelaw3_LogicExact_cfg (ρ := ρ) k) (cadastrelaw3_LogicExact_G k) (cadastrelaw3_LogicExact_J.getD 7 .skip) 26 (cadastrelaw3_LogicExact_j26_s k) := by
  intro s K r h
  obtain ⟨env, hp⟩ := s
  unfold cadastrelaw3_LogicExact_j26_s at h
  replace h := popS_inv h; obtain ⟨v1, e2, rfl, h⟩ := h
  replace h := as_l25_inv h; obtain ⟨l0, rfl, h⟩ := h
  replace h := popS_inv h; obtain ⟨v3, e4, rfl, h⟩ := h
  replace h := asI_inv h; obtain ⟨i3, rfl, h⟩ := h
  replace h := popS_inv h; obtain ⟨v5, e6, rfl, h⟩ := h
  replace h := asP_inv h; obtain ⟨rfl, h⟩ := h
  replace h := popS_inv h; obtain ⟨v7, e8, rfl, h⟩ := h
  replace h := asP_inv h; obtain ⟨rfl, h⟩ := h
  replace h := popS_inv h; obtain ⟨v9, e10, rfl, h⟩ := h
  replace h := asP_inv h; obtain ⟨rfl, h⟩ := h
  replace h := popS_inv h; obtain ⟨v11, e12, rfl, h⟩ := h
  replace h := asP_inv h; obtain ⟨rfl, h⟩ := h
  replace h := popS_inv h; obtain ⟨v13, e14, rfl, h⟩ := h
  replace h := asP_inv h; obtain ⟨rfl, h⟩ := h
  replace h := popS_inv h; obtain ⟨v15, e16, rfl, h⟩ := h
  replace h := asI_inv h; obtain ⟨b13, rfl, h⟩ := h
  replace h := popS_inv h; obtain ⟨v17, e18, rfl, h⟩ := h
  replace h := asI_inv h; obtain ⟨c14, rfl, h⟩ := h
  replace h := popS_inv h; obtain ⟨v19, e20, rfl, h⟩ := h
  replace h := asI_inv h; obtain ⟨d15, rfl, h⟩ := h
  replace h := popS_inv h; obtain ⟨v21, e22, rfl, h⟩ := h
  replace h := asI_inv h; obtain ⟨f16, rfl, h⟩ := h
  replace h := popN_inv h; obtain ⟨rfl, h⟩ := h
  replace h := popB_inv h; obtain ⟨c23, e24, rfl, h⟩ := h
  replace h := popA_inv h; obtain ⟨v25, c26, rfl, h⟩ := h
  replace h := asI_inv h; obtain ⟨z27, rfl, h⟩ := h
  replace h := popA_inv h; obtain ⟨v28, c29, rfl, h⟩ := h
  replace h := asI_inv h; obtain ⟨z30, rfl, h⟩ := h
  replace h := popA_inv h; obtain ⟨v31, c32, rfl, h⟩ := h
  replace h := asS_inv h; obtain ⟨z33, rfl, h⟩ := h
  replace h := popA_inv h; obtain ⟨v34, c35, rfl, h⟩ := h
  replace h := asI_inv h; obtain ⟨z36, rfl, h⟩ := h
  replace h := popA_inv h; obtain ⟨v37, c38, rfl, h⟩ := h
  replace h := asI_inv h; obtain ⟨z39, rfl, h⟩ := h
  replace h := popA_inv h; obtain ⟨v40, c41, rfl, h⟩ := h
  replace h := asS_inv h; obtain ⟨z42, rfl, h⟩ := h
  replace h := popA_inv h; obtain ⟨v43, c44, rfl, h⟩ := h
  replace h := asI_inv h; obtain ⟨z45, rfl, h⟩ := h
  replace h := popN_inv h; obtain ⟨rfl, h⟩ := h
  replace h := popB_inv h; obtain ⟨c46, e47, rfl, h⟩ := h
  replace h := popA_inv h; obtain ⟨v48, c49, rfl, h⟩ := h
  replace h := asI_inv h; obtain ⟨z50, rfl, h⟩ := h
  replace h := popA_inv h; obtain ⟨v51, c52, rfl, h⟩ := h
  replace h := asI_inv h; obtain ⟨z53, rfl, h⟩ := h
  replace h := popA_inv h; obtain ⟨v54, c55, rfl, h⟩ := h
  replace h := asS_inv h; obtain ⟨z56, rfl, h⟩ := h
  replace h := popN_inv h; obtain ⟨rfl, h⟩ := h
  replace h := popB_inv h; obtain ⟨c57, e58, rfl, h⟩ := h
  replace h := popA_inv h; obtain ⟨v59, c60, rfl, h⟩ := h
  replace h := asI_inv h; obtain ⟨z61, rfl, h⟩ := h
  replace h := popA_inv h; obtain ⟨v62, c63, rfl, h⟩ := h
  replace h := asI_inv h; obtain ⟨z64, rfl, h⟩ := h
  replace h := popA_inv h; obtain ⟨v65, c66, rfl, h⟩ := h
  replace h := asS_inv h; obtain ⟨z67, rfl, h⟩ := h
  replace h := popN_inv h; obtain ⟨rfl, h⟩ := h
  replace h := popB_inv h; obtain ⟨c68, e69, rfl, h⟩ := h
  replace h := popA_inv h; obtain ⟨v70, c71, rfl, h⟩ := h
  replace h := asI_inv h; obtain ⟨z72, rfl, h⟩ := h
  replace h := popA_inv h; obtain ⟨v73, c74, rfl, h⟩ := h
  replace h := asI_inv h; obtain ⟨z75, rfl, h⟩ := h
  replace h := popA_inv h; obtain ⟨v76, c77, rfl, h⟩ := h
  replace h := asS_inv h; obtain ⟨z78, rfl, h⟩ := h
  replace h := popN_inv h; obtain ⟨rfl, h⟩ := h
  replace h := popB_inv h; obtain ⟨c79, e80, rfl, h⟩ := h
  replace h := popA_inv h; obtain ⟨v81, c82, rfl, h⟩ := h
  replace h := asI_inv h; obtain ⟨z83, rfl, h⟩ := h
  replace h := popA_inv h; obtain ⟨v84, c85, rfl, h⟩ := h
  replace h := asI_inv h; obtain ⟨z86, rfl, h⟩ := h
  replace h := popA_inv h; obtain ⟨v87, c88, rfl, h⟩ := h
  replace h := asS_inv h; obtain ⟨z89, rfl, h⟩ := h
  replace h := popN_inv h; obtain ⟨rfl, h⟩ := h
  replace h := popN_inv h; obtain ⟨rfl, h⟩ := h
  exact (cadastrelaw3_LogicExact_j26_eq7 k K l0 i3 b13 c14 d15 f16 (⟨(⟨z27, z30, z33⟩ : S23), (⟨z36, z39, z42⟩ : S23), z45⟩ : S25) (⟨z50, z53, z56⟩ : S23) (⟨z61, z64, z67⟩ : S23) (⟨z72, z75, z78⟩ : S23) (⟨z83, z86, z89⟩ : S23)).trans h
theorem cadastrelaw3_LogicExact_cok {ρ : Type} (k : Nat) : COK (cadastrelaw3_LogicExact_cfg (ρ := ρ) k) (cadastrelaw3_LogicExact_G k) cadastrelaw3_LogicExact_code :=
  cok_of (tl := [(2, cadastrelaw3_LogicExact_l2_s k)]) (tj := [(18, cadastrelaw3_LogicExact_j18_s k), (26, cadastrelaw3_LogicExact_j26_s k), (23, cadastrelaw3_LogicExact_j23_s k), (21, cadastrelaw3_LogicExact_j21_s k), (19, cadastrelaw3_LogicExact_j19_s k), (17, cadastrelaw3_LogicExact_j17_s k), (7, cadastrelaw3_LogicExact_j7_s k), (4, cadastrelaw3_LogicExact_j4_s k)]) (tb := []) rfl rfl rfl (all_nth 1 (by kernel_rfl) ⟨iter_case (by kernel_rfl) rfl (cadastrelaw3_LogicExact_l2_ok0 k), trivial⟩) (all_nth 8 (by kernel_rfl) ⟨join_case (by kernel_rfl) rfl (cadastrelaw3_LogicExact_j26_ok7 k), join_case (by kernel_rfl) rfl (cadastrelaw3_LogicExact_j23_ok6 k), join_case (by kernel_rfl) rfl (cadastrelaw3_LogicExact_j21_ok5 k), join_case (by kernel_rfl) rfl (cadastrelaw3_LogicExact_j18_ok4 k), join_case (by kernel_rfl) rfl (cadastrelaw3_LogicExact_j19_ok3 k), join_case (by kernel_rfl) rfl (cadastrelaw3_LogicExact_j17_ok2 k), join_case (by kernel_rfl) rfl (cadastrelaw3_LogicExact_j7_ok1 k), join_case (by kernel_rfl) rfl (cadastrelaw3_LogicExact_j4_ok0 k), trivial⟩) (fun p hp => by cases hp)
noncomputable def cadastrelaw3_LogicExact_enc (r : Bool) : AV UU := .pv (.bool r)
noncomputable def cadastrelaw3_LogicExact_dec (v : AV UU) (_ : List (List (AV UU))) : Option Bool :=
asB v fun r0 =>
some r0
theorem cadastrelaw3_LogicExact_dec_enc (v : AV UU) (b : List (List (AV UU))) (r : Bool) (h : cadastrelaw3_LogicExact_dec v b = some r) : v = cadastrelaw3_LogicExact_enc r := by
  unfold cadastrelaw3_LogicExact_dec at h
  replace h := asB_inv h; obtain ⟨r0, rfl, h⟩ := h
  cases h
  rfl
theorem cadastrelaw3_LogicExact_eq (k : Nat) (l0 : List S25) : bodyK UX (cadastrelaw3_LogicExact_cfg k) (cadastrelaw3_LogicExact_G k) Try.f7 [.pv (.typ (.l25 l0))] [] cadastrelaw3_LogicExact_dec = cadastrelaw3_LogicExact k l0 := by kernel_rfl
theorem cadastrelaw3_LogicExact_con (k : Nat) (l0 : List S25) (r : Bool) (h : cadastrelaw3_LogicExact k l0 = some r) : Con (X := UX) Try.prog 7 [.pv (.typ (.l25 l0))] [] (cadastrelaw3_LogicExact_enc r) [] :=
  con_of_body xok tok Try.func7 cadastrelaw3_LogicExact_body (cadastrelaw3_LogicExact_gok k) rfl (cadastrelaw3_LogicExact_cok k) (of_decide_eq_true (by kernel_rfl)) cadastrelaw3_LogicExact_dec_enc ((cadastrelaw3_LogicExact_eq k l0).trans h)
noncomputable def cadastrelaw3_LogicExact_an {ρ : Type} (k : Nat) : An UX ρ := fun args bx K =>
popA args fun v1 a2 =>
as_l25 v1 fun l0 =>
popN a2 <|
popN bx <|
(cadastrelaw3_LogicExact k l0).bind fun r => K (cadastrelaw3_LogicExact_enc r) []
theorem cadastrelaw3_LogicExact_ok {ρ : Type} (k : Nat) : AnsOK Try.prog 7 (cadastrelaw3_LogicExact_an (ρ := ρ) k) := by
  intro args bx K r h
  unfold cadastrelaw3_LogicExact_an at h
  replace h := popA_inv h; obtain ⟨v1, a2, rfl, h⟩ := h
  replace h := as_l25_inv h; obtain ⟨l0, rfl, h⟩ := h
  replace h := popN_inv h; obtain ⟨rfl, h⟩ := h
  replace h := popN_inv h; obtain ⟨rfl, h⟩ := h
  replace h := bind_inv h
  obtain ⟨x, hx, h⟩ := h
  exact ⟨there_of Try.func7 (by kernel_rfl) cadastrelaw3_LogicExact_body, _, _, h, cadastrelaw3_LogicExact_con k l0 x hx⟩
end Go.Proofs.Ytahgjfdndpnpfaa.T
