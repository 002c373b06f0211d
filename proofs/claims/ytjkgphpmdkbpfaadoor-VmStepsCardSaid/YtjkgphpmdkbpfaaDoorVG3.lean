/-
  What the program's functions answer: the printed functions' answers.
-/
import Derived.Test.YtjkgphpmdkbpfaaDoorVG2
namespace Go.Proofs.YtjkgphpmdkbpfaaDoor.V
open Go Go.AX
/-! cadastre/cadastreref23.Two -/
noncomputable def cadastreref23_Two_code : Code := match Tryd.f20.body with | some c => c | none => .skip
theorem cadastreref23_Two_body : Tryd.f20.body = some cadastreref23_Two_code := by kernel_rfl
noncomputable def cadastreref23_Two_G {ρ : Type} (k : Nat) : Ans UX ρ := gk 36 (cadastreref4_Concat_an k) (gk 37 (cadastreref4_Do_an k) (gk 38 (cadastreref2_Test_an k) (gk 39 (cadastreref2_Join_an k) (gnil))))
theorem cadastreref23_Two_gok {ρ : Type} (k : Nat) : GOK Tryd.prog (cadastreref23_Two_G (ρ := ρ) k) := gok_cons (cadastreref4_Concat_ok k) (gok_cons (cadastreref4_Do_ok k) (gok_cons (cadastreref2_Test_ok k) (gok_cons (cadastreref2_Join_ok k) (gok_nil))))
noncomputable def cadastreref23_Two_j5_s {ρ : Type} (k : Nat) : Run UX ρ := fun s K =>
popS 0 s.env fun v1 e2 =>
asI .i64 v1 fun op0 =>
popS 4 e2 fun v3 e4 =>
asP 4 0 v3 <|
popS 5 e4 fun v5 e6 =>
asP 5 0 v5 <|
popS 6 e6 fun v7 e8 =>
asP 6 0 v7 <|
popN e8 <|
popB 4 s.hp fun c9 e10 =>
popA c9 fun v11 c12 =>
asI .i64 v11 fun z13 =>
popA c12 fun v14 c15 =>
asI .i64 v14 fun z16 =>
popA c15 fun v17 c18 =>
asS v17 fun z19 =>
popN c18 <|
popB 5 e10 fun c20 e21 =>
popA c20 fun v22 c23 =>
asI .i64 v22 fun z24 =>
popA c23 fun v25 c26 =>
asI .i64 v25 fun z27 =>
popA c26 fun v28 c29 =>
asS v28 fun z30 =>
popN c29 <|
popB 6 e21 fun c31 e32 =>
popA c31 fun v33 c34 =>
asI .i64 v33 fun z35 =>
popA c34 fun v36 c37 =>
asI .i64 v36 fun z38 =>
popA c37 fun v39 c40 =>
asS v39 fun z41 =>
popN c40 <|
popN e32 <|
cadastreref23_Two_j5 k (fun t7 t6 => K .ret ⟨[(6, .ptr 6 0), (7, .pv (.int .i64 t7))], [(6, [.pv (.int .i64 t6.f0), .pv (.int .i64 t6.f1), .pv (.str t6.f2)])]⟩) (fun op0 a4 b5 t6 => K .nxt ⟨[(0, .pv (.int .i64 op0)), (4, .ptr 4 0), (5, .ptr 5 0), (6, .ptr 6 0)], [(4, [.pv (.int .i64 a4.f0), .pv (.int .i64 a4.f1), .pv (.str a4.f2)]), (5, [.pv (.int .i64 b5.f0), .pv (.int .i64 b5.f1), .pv (.str b5.f2)]), (6, [.pv (.int .i64 t6.f0), .pv (.int .i64 t6.f1), .pv (.str t6.f2)])]⟩) op0 (⟨z13, z16, z19⟩ : S29) (⟨z24, z27, z30⟩ : S29) (⟨z35, z38, z41⟩ : S29)
noncomputable def cadastreref23_Two_cfg {ρ : Type} (k : Nat) : Cfg UX ρ where
  live i := (assoc [(0, [0, 1, 2]), (1, [0, 4, 5, 6]), (2, [4, 5, 6]), (3, [0, 4, 5, 6]), (4, [0, 4, 5, 6]), (5, [0, 4, 5, 6]), (6, [0, 4, 5, 6]), (7, [0, 4, 5, 6])] i).getD []
  boxes i := (assoc [(0, []), (1, [4, 5, 6]), (2, [4, 5, 6]), (3, [4, 5, 6]), (4, [4, 5, 6]), (5, [4, 5, 6]), (6, [4, 5, 6]), (7, [4, 5, 6])] i).getD []
  tk i := (assoc [] i).getD []
  n := 46
  labelR l := (assoc [] l).getD 0
  loops := assoc []
  labels := assoc []
  joins := assoc [(5, cadastreref23_Two_j5_s k)]
  xl i e := match e with
    | .nxt => assoc [(5, ([0, 4, 5, 6], [4, 5, 6]))] i
    | .ret => assoc [(5, ([6, 7], [6]))] i
    | .exit j => (assoc [] i).bind fun l => assoc l j
    | .goto j => (assoc [] i).bind fun l => assoc l j
noncomputable def cadastreref23_Two_L : List Code := selI [] (loopsOf cadastreref23_Two_code)
noncomputable def cadastreref23_Two_J : List Code := selI [5] (joinsOf cadastreref23_Two_code)
noncomputable def cadastreref23_Two_S : List Code := scopesOf cadastreref23_Two_code
theorem cadastreref23_Two_j5_eq0 {ρ : Type} (k : Nat) (K : Ex → St UU → Option ρ) (op0 : Int) (a4 : S29) (b5 : S29) (t6 : S29) : exec UX (cadastreref23_Two_cfg k) (cadastreref23_Two_G k) (cadastreref23_Two_J.getD 0 .skip) ⟨[(0, .pv (.int .i64 op0)), (4, .ptr 4 0), (5, .ptr 5 0), (6, .ptr 6 0)], [(4, [.pv (.int .i64 a4.f0), .pv (.int .i64 a4.f1), .pv (.str a4.f2)]), (5, [.pv (.int .i64 b5.f0), .pv (.int .i64 b5.f1), .pv (.str b5.f2)]), (6, [.pv (.int .i64 t6.f0), .pv (.int .i64 t6.f1), .pv (.str t6.f2)])]⟩ (nrmK UX (cadastreref23_Two_cfg k) 5 K) = cadastreref23_Two_j5 k (fun t7 t6 => K .ret ⟨[(6, .ptr 6 0), (7, .pv (.int .i64 t7))], [(6, [.pv (.int .i64 t6.f0), .pv (.int .i64 t6.f1), .pv (.str t6.f2)])]⟩) (fun op0 a4 b5 t6 => K .nxt ⟨[(0, .pv (.int .i64 op0)), (4, .ptr 4 0), (5, .ptr 5 0), (6, .ptr 6 0)], [(4, [.pv (.int .i64 a4.f0), .pv (.int .i64 a4.f1), .pv (.str a4.f2)]), (5, [.pv (.int .i64 b5.f0), .pv (.int .i64 b5.f1), .pv (.str b5.f2)]), (6, [.pv (.int .i64 t6.f0), .pv (.int .i64 t6.f1), .pv (.str t6.f2)])]⟩) op0 a4 b5 t6 := by kernel_rfl
theorem cadastreref23_Two_j5_ok0 {ρ : Type} (k : Nat) : JoinOK UX (cadastreref23_Two_cfg (ρ := ρ) k) (cadastreref23_Two_G k) (cadastreref23_Two_J.getD 0 .skip) 5 (cadastreref23_Two_j5_s k) := by
  intro s K r h
  obtain ⟨env, hp⟩ := s
  unfold cadastreref23_Two_j5_s at h
  replace h := popS_inv h; obtain ⟨v1, e2, rfl, h⟩ := h
  replace h := asI_inv h; obtain ⟨op0, rfl, h⟩ := h
  replace h := popS_inv h; obtain ⟨v3, e4, rfl, h⟩ := h
  replace h := asP_inv h; obtain ⟨rfl, h⟩ := h
  replace h := popS_inv h; obtain ⟨v5, e6, rfl, h⟩ := h
  replace h := asP_inv h; obtain ⟨rfl, h⟩ := h
  replace h := popS_inv h; obtain ⟨v7, e8, rfl, h⟩ := h
  replace h := asP_inv h; obtain ⟨rfl, h⟩ := h
  replace h := popN_inv h; obtain ⟨rfl, h⟩ := h
  replace h := popB_inv h; obtain ⟨c9, e10, rfl, h⟩ := h
  replace h := popA_inv h; obtain ⟨v11, c12, rfl, h⟩ := h
  replace h := asI_inv h; obtain ⟨z13, rfl, h⟩ := h
  replace h := popA_inv h; obtain ⟨v14, c15, rfl, h⟩ := h
  replace h := asI_inv h; obtain ⟨z16, rfl, h⟩ := h
  replace h := popA_inv h; obtain ⟨v17, c18, rfl, h⟩ := h
  replace h := asS_inv h; obtain ⟨z19, rfl, h⟩ := h
  replace h := popN_inv h; obtain ⟨rfl, h⟩ := h
  replace h := popB_inv h; obtain ⟨c20, e21, rfl, h⟩ := h
  replace h := popA_inv h; obtain ⟨v22, c23, rfl, h⟩ := h
  replace h := asI_inv h; obtain ⟨z24, rfl, h⟩ := h
  replace h := popA_inv h; obtain ⟨v25, c26, rfl, h⟩ := h
  replace h := asI_inv h; obtain ⟨z27, rfl, h⟩ := h
  replace h := popA_inv h; obtain ⟨v28, c29, rfl, h⟩ := h
  replace h := asS_inv h; obtain ⟨z30, rfl, h⟩ := h
  replace h := popN_inv h; obtain ⟨rfl, h⟩ := h
  replace h := popB_inv h; obtain ⟨c31, e32, rfl, h⟩ := h
  replace h := popA_inv h; obtain ⟨v33, c34, rfl, h⟩ := h
  replace h := asI_inv h; obtain ⟨z35, rfl, h⟩ := h
  replace h := popA_inv h; obtain ⟨v36, c37, rfl, h⟩ := h
  replace h := asI_inv h; obtain ⟨z38, rfl, h⟩ := h
  replace h := popA_inv h; obtain ⟨v39, c40, rfl, h⟩ := h
  replace h := asS_inv h; obtain ⟨z41, rfl, h⟩ := h
  replace h := popN_inv h; obtain ⟨rfl, h⟩ := h
  replace h := popN_inv h; obtain ⟨rfl, h⟩ := h
  exact (cadastreref23_Two_j5_eq0 k K op0 (⟨z13, z16, z19⟩ : S29) (⟨z24, z27, z30⟩ : S29) (⟨z35, z38, z41⟩ : S29)).trans h
theorem cadastreref23_Two_cok {ρ : Type} (k : Nat) : COK (cadastreref23_Two_cfg (ρ := ρ) k) (cadastreref23_Two_G k) cadastreref23_Two_code :=
  cok_of (tl := []) (tj := [(5, cadastreref23_Two_j5_s k)]) (tb := []) rfl rfl rfl (nil_all (by kernel_rfl)) (all_nth 1 (by kernel_rfl) ⟨join_case (by kernel_rfl) rfl (cadastreref23_Two_j5_ok0 k), trivial⟩) (fun p hp => by cases hp)
noncomputable def cadastreref23_Two_enc (r : S29 × Int) : AV UU := .pv (.tup [.typ (.s29 r.1), .int .i64 r.2])
noncomputable def cadastreref23_Two_dec (v : AV UU) (_ : List (List (AV UU))) : Option (S29 × Int) :=
asT v fun q1 =>
popA q1 fun p2 q3 =>
as_s29 (.pv p2) fun r0 =>
popA q3 fun p4 q5 =>
asI .i64 (.pv p4) fun r1 =>
popN q5 <|
some (r0, r1)
theorem cadastreref23_Two_dec_enc (v : AV UU) (b : List (List (AV UU))) (r : S29 × Int) (h : cadastreref23_Two_dec v b = some r) : v = cadastreref23_Two_enc r := by
  unfold cadastreref23_Two_dec at h
  replace h := asT_inv h; obtain ⟨q1, rfl, h⟩ := h
  replace h := popA_inv h; obtain ⟨p2, q3, rfl, h⟩ := h
  replace h := as_s29_inv h; obtain ⟨r0, e, h⟩ := h; cases e
  replace h := popA_inv h; obtain ⟨p4, q5, rfl, h⟩ := h
  replace h := asI_inv h; obtain ⟨r1, e, h⟩ := h; cases e
  replace h := popN_inv h; obtain ⟨rfl, h⟩ := h
  cases h
  rfl
theorem cadastreref23_Two_eq (k : Nat) (op0 : Int) (a1 : S29) (b2 : S29) : bodyK UX (cadastreref23_Two_cfg k) (cadastreref23_Two_G k) Tryd.f20 [.pv (.int .i64 op0), .pv (.typ (.s29 a1)), .pv (.typ (.s29 b2))] [] cadastreref23_Two_dec = cadastreref23_Two k op0 a1 b2 := by kernel_rfl
theorem cadastreref23_Two_con (k : Nat) (op0 : Int) (a1 : S29) (b2 : S29) (r : S29 × Int) (h : cadastreref23_Two k op0 a1 b2 = some r) : Con (X := UX) Tryd.prog 20 [.pv (.int .i64 op0), .pv (.typ (.s29 a1)), .pv (.typ (.s29 b2))] [] (cadastreref23_Two_enc r) [] :=
  con_of_body xok tok Tryd.func20 cadastreref23_Two_body (cadastreref23_Two_gok k) rfl (cadastreref23_Two_cok k) (of_decide_eq_true (by kernel_rfl)) cadastreref23_Two_dec_enc ((cadastreref23_Two_eq k op0 a1 b2).trans h)
noncomputable def cadastreref23_Two_an {ρ : Type} (k : Nat) : An UX ρ := fun args bx K =>
popA args fun v1 a2 =>
asI .i64 v1 fun op0 =>
popA a2 fun v3 a4 =>
as_s29 v3 fun a1 =>
popA a4 fun v5 a6 =>
as_s29 v5 fun b2 =>
popN a6 <|
popN bx <|
(cadastreref23_Two k op0 a1 b2).bind fun r => K (cadastreref23_Two_enc r) []
theorem cadastreref23_Two_ok {ρ : Type} (k : Nat) : AnsOK Tryd.prog 20 (cadastreref23_Two_an (ρ := ρ) k) := by
  intro args bx K r h
  unfold cadastreref23_Two_an at h
  replace h := popA_inv h; obtain ⟨v1, a2, rfl, h⟩ := h
  replace h := asI_inv h; obtain ⟨op0, rfl, h⟩ := h
  replace h := popA_inv h; obtain ⟨v3, a4, rfl, h⟩ := h
  replace h := as_s29_inv h; obtain ⟨a1, rfl, h⟩ := h
  replace h := popA_inv h; obtain ⟨v5, a6, rfl, h⟩ := h
  replace h := as_s29_inv h; obtain ⟨b2, rfl, h⟩ := h
  replace h := popN_inv h; obtain ⟨rfl, h⟩ := h
  replace h := popN_inv h; obtain ⟨rfl, h⟩ := h
  replace h := bind_inv h
  obtain ⟨x, hx, h⟩ := h
  exact ⟨there_of Tryd.func20 (by kernel_rfl) cadastreref23_Two_body, _, _, h, cadastreref23_Two_con k op0 a1 b2 x hx⟩

/-! cadastre/cadastreref23.Run -/
noncomputable def cadastreref23_Run_code : Code := match Tryd.f8.body with | some c => c | none => .skip
theorem cadastreref23_Run_body : Tryd.f8.body = some cadastreref23_Run_code := by kernel_rfl
noncomputable def cadastreref23_Run_G {ρ : Type} (k : Nat) : Ans UX ρ := gk 19 (cadastreref23_One_an k) (gk 20 (cadastreref23_Two_an k) (gk 21 (cadastreref2_Truth_an k) (gnil)))
theorem cadastreref23_Run_gok {ρ : Type} (k : Nat) : GOK Tryd.prog (cadastreref23_Run_G (ρ := ρ) k) := gok_cons (cadastreref23_One_ok k) (gok_cons (cadastreref23_Two_ok k) (gok_cons (cadastreref2_Truth_ok k) (gok_nil)))
noncomputable def cadastreref23_Run_j29_s {ρ : Type} (k : Nat) : Run UX ρ := fun s K =>
popS 0 s.env fun v1 e2 =>
as_l43 v1 fun l0 =>
popS 1 e2 fun v3 e4 =>
as_l29 v3 fun row1 =>
popS 2 e4 fun v5 e6 =>
asI .i64 v5 fun most2 =>
popS 6 e6 fun v7 e8 =>
asP 6 0 v7 <|
popS 8 e8 fun v9 e10 =>
asP 8 0 v9 <|
popS 9 e10 fun v11 e12 =>
asI .i64 v11 fun at9 =>
popS 10 e12 fun v13 e14 =>
asI .i64 v13 fun n10 =>
popS 11 e14 fun v15 e16 =>
asP 11 0 v15 <|
popS 12 e16 fun v17 e18 =>
asI .i64 v17 fun bad12 =>
popS 13 e18 fun v19 e20 =>
asI .i64 v19 fun t13 =>
popN e20 <|
popB 6 s.hp fun c21 e22 =>
popA c21 fun v23 c24 =>
asI .i64 v23 fun z25 =>
popA c24 fun v26 c27 =>
asI .i64 v26 fun z28 =>
popA c27 fun v29 c30 =>
asS v29 fun z31 =>
popN c30 <|
popB 8 e22 fun c32 e33 =>
popA c32 fun v34 c35 =>
as_a49 v34 fun z36 =>
popN c35 <|
popB 11 e33 fun c37 e38 =>
popA c37 fun v39 c40 =>
asI .i64 v39 fun z41 =>
popA c40 fun v42 c43 =>
asI .i64 v42 fun z44 =>
popA c43 fun v45 c46 =>
asI .i64 v45 fun z47 =>
popA c46 fun v48 c49 =>
asI .i64 v48 fun z50 =>
popA c49 fun v51 c52 =>
asI .i64 v51 fun z53 =>
popA c52 fun v54 c55 =>
asI .i64 v54 fun z56 =>
popA c55 fun v57 c58 =>
asS v57 fun z59 =>
popA c58 fun v60 c61 =>
asI .i64 v60 fun z62 =>
popN c61 <|
popN e38 <|
cadastreref23_Run_j29 k (fun l0 row1 most2 at9 n10 bad12 t6 r8_0 => K .nxt ⟨[(0, .pv (.typ (.l43 l0))), (1, .pv (.typ (.l29 row1))), (2, .pv (.int .i64 most2)), (6, .ptr 6 0), (8, .ptr 8 0), (9, .pv (.int .i64 at9)), (10, .pv (.int .i64 n10)), (12, .pv (.int .i64 bad12))], [(6, [.pv (.int .i64 t6.f0), .pv (.int .i64 t6.f1), .pv (.str t6.f2)]), (8, [.pv (.typ (.a49 r8_0))])]⟩) l0 row1 most2 at9 n10 bad12 t13 (⟨z25, z28, z31⟩ : S29) z36 (⟨z41, z44, z47, z50, (⟨z53, z56, z59⟩ : S29), z62⟩ : S43)
noncomputable def cadastreref23_Run_j26_s {ρ : Type} (k : Nat) : Run UX ρ := fun s K =>
popS 0 s.env fun v1 e2 =>
as_l43 v1 fun l0 =>
popS 1 e2 fun v3 e4 =>
as_l29 v3 fun row1 =>
popS 2 e4 fun v5 e6 =>
asI .i64 v5 fun most2 =>
popS 6 e6 fun v7 e8 =>
asP 6 0 v7 <|
popS 8 e8 fun v9 e10 =>
asP 8 0 v9 <|
popS 9 e10 fun v11 e12 =>
asI .i64 v11 fun at9 =>
popS 10 e12 fun v13 e14 =>
asI .i64 v13 fun n10 =>
popS 11 e14 fun v15 e16 =>
asP 11 0 v15 <|
popS 12 e16 fun v17 e18 =>
asI .i64 v17 fun bad12 =>
popN e18 <|
popB 6 s.hp fun c19 e20 =>
popA c19 fun v21 c22 =>
asI .i64 v21 fun z23 =>
popA c22 fun v24 c25 =>
asI .i64 v24 fun z26 =>
popA c25 fun v27 c28 =>
asS v27 fun z29 =>
popN c28 <|
popB 8 e20 fun c30 e31 =>
popA c30 fun v32 c33 =>
as_a49 v32 fun z34 =>
popN c33 <|
popB 11 e31 fun c35 e36 =>
popA c35 fun v37 c38 =>
asI .i64 v37 fun z39 =>
popA c38 fun v40 c41 =>
asI .i64 v40 fun z42 =>
popA c41 fun v43 c44 =>
asI .i64 v43 fun z45 =>
popA c44 fun v46 c47 =>
asI .i64 v46 fun z48 =>
popA c47 fun v49 c50 =>
asI .i64 v49 fun z51 =>
popA c50 fun v52 c53 =>
asI .i64 v52 fun z54 =>
popA c53 fun v55 c56 =>
asS v55 fun z57 =>
popA c56 fun v58 c59 =>
asI .i64 v58 fun z60 =>
popN c59 <|
popN e36 <|
cadastreref23_Run_j26 k (fun l0 row1 most2 at9 n10 bad12 t6 r8_0 => K .nxt ⟨[(0, .pv (.typ (.l43 l0))), (1, .pv (.typ (.l29 row1))), (2, .pv (.int .i64 most2)), (6, .ptr 6 0), (8, .ptr 8 0), (9, .pv (.int .i64 at9)), (10, .pv (.int .i64 n10)), (12, .pv (.int .i64 bad12))], [(6, [.pv (.int .i64 t6.f0), .pv (.int .i64 t6.f1), .pv (.str t6.f2)]), (8, [.pv (.typ (.a49 r8_0))])]⟩) l0 row1 most2 at9 n10 bad12 (⟨z23, z26, z29⟩ : S29) z34 (⟨z39, z42, z45, z48, (⟨z51, z54, z57⟩ : S29), z60⟩ : S43)
noncomputable def cadastreref23_Run_l5_s {ρ : Type} (k : Nat) : Run UX ρ := fun s K =>
popS 0 s.env fun v1 e2 =>
as_l43 v1 fun l0 =>
popS 1 e2 fun v3 e4 =>
as_l29 v3 fun row1 =>
popS 2 e4 fun v5 e6 =>
asI .i64 v5 fun most2 =>
popS 6 e6 fun v7 e8 =>
asP 6 0 v7 <|
popS 8 e8 fun v9 e10 =>
asP 8 0 v9 <|
popS 9 e10 fun v11 e12 =>
asI .i64 v11 fun at9 =>
popS 10 e12 fun v13 e14 =>
asI .i64 v13 fun n10 =>
popN e14 <|
popB 6 s.hp fun c15 e16 =>
popA c15 fun v17 c18 =>
asI .i64 v17 fun z19 =>
popA c18 fun v20 c21 =>
asI .i64 v20 fun z22 =>
popA c21 fun v23 c24 =>
asS v23 fun z25 =>
popN c24 <|
popB 8 e16 fun c26 e27 =>
popA c26 fun v28 c29 =>
as_a49 v28 fun z30 =>
popN c29 <|
popN e27 <|
cadastreref23_Run_l5 k (fun t7 t6 => K .ret ⟨[(6, .ptr 6 0), (7, .pv (.int .i64 t7))], [(6, [.pv (.int .i64 t6.f0), .pv (.int .i64 t6.f1), .pv (.str t6.f2)])]⟩) k l0 row1 most2 at9 n10 (⟨z19, z22, z25⟩ : S29) z30
noncomputable def cadastreref23_Run_cfg {ρ : Type} (k : Nat) : Cfg UX ρ where
  live i := (assoc [(0, [0, 1, 2]), (1, [0, 1, 2, 6]), (2, [0, 1, 2, 6, 8]), (3, [0, 1, 2, 6, 8, 9]), (4, [0, 1, 2, 6, 8, 9, 10]), (5, [0, 1, 2, 6, 8, 9, 10]), (6, [6]), (7, [0, 1, 2, 6, 8, 9, 10]), (8, [6]), (9, [0, 1, 2, 6, 8, 9, 10]), (10, [0, 1, 2, 6, 8, 9, 10, 11]), (11, [0, 1, 2, 6, 8, 9, 10, 11]), (12, [0, 1, 2, 6, 8, 9, 10, 11, 12]), (13, [6, 8, 11]), (14, [0, 1, 2, 6, 8, 9, 10, 11, 12, 32]), (15, [0, 1, 2, 6, 8, 9, 10, 11, 12]), (16, [0, 1, 2, 6, 8, 9, 10, 11, 12, 32]), (17, [0, 1, 2, 6, 8, 9, 10, 11, 12]), (18, [0, 1, 2, 6, 8, 9, 10, 11, 12, 32]), (19, [0, 1, 2, 6, 8, 9, 10, 11]), (20, [0, 1, 2, 6, 8, 9, 10, 11, 12, 32]), (21, [0, 1, 2, 6, 8, 9, 10, 11]), (22, [0, 1, 2, 6, 8, 9, 10, 11, 12, 32]), (23, [0, 1, 2, 6, 8, 10, 11, 12]), (24, [0, 1, 2, 6, 8, 9, 10, 11, 12, 32]), (25, [0, 1, 2, 6, 8, 9, 10, 11, 12, 32]), (26, [0, 1, 2, 6, 8, 9, 10, 11, 12]), (27, [0, 1, 2, 6, 8, 9, 10, 11, 12, 13]), (28, [0, 1, 2, 6, 8, 9, 10, 11, 13]), (29, [0, 1, 2, 6, 8, 9, 10, 11, 12, 13]), (30, [0, 1, 2, 6, 8, 10, 11, 12]), (31, [0, 1, 2, 6, 8, 9, 10, 12]), (32, [6, 12])] i).getD []
  boxes i := (assoc [(0, []), (1, [6]), (2, [6, 8]), (3, [6, 8]), (4, [6, 8]), (5, [6, 8]), (6, [6]), (7, [6, 8]), (8, [6]), (9, [6, 8]), (10, [6, 8, 11]), (11, [6, 8, 11]), (12, [6, 8, 11]), (13, [6, 8, 11]), (14, [6, 8, 11]), (15, [6, 8, 11]), (16, [6, 8, 11]), (17, [6, 8, 11]), (18, [6, 8, 11]), (19, [6, 8, 11]), (20, [6, 8, 11]), (21, [6, 8, 11]), (22, [6, 8, 11]), (23, [6, 8, 11]), (24, [6, 8, 11]), (25, [6, 8, 11]), (26, [6, 8, 11]), (27, [6, 8, 11]), (28, [6, 8, 11]), (29, [6, 8, 11]), (30, [6, 8, 11]), (31, [6, 8]), (32, [6])] i).getD []
  tk i := (assoc [] i).getD []
  n := 124
  labelR l := (assoc [] l).getD 0
  loops := assoc [(5, cadastreref23_Run_l5_s k)]
  labels := assoc []
  joins := assoc [(29, cadastreref23_Run_j29_s k), (26, cadastreref23_Run_j26_s k)]
  xl i e := match e with
    | .nxt => assoc [(29, ([0, 1, 2, 6, 8, 9, 10, 12], [6, 8])), (26, ([0, 1, 2, 6, 8, 9, 10, 12], [6, 8]))] i
    | .ret => assoc [(5, ([6, 7], [6]))] i
    | .exit j => (assoc [] i).bind fun l => assoc l j
    | .goto j => (assoc [] i).bind fun l => assoc l j
noncomputable def cadastreref23_Run_L : List Code := selI [5] (loopsOf cadastreref23_Run_code)
noncomputable def cadastreref23_Run_J : List Code := selI [29, 26] (joinsOf cadastreref23_Run_code)
noncomputable def cadastreref23_Run_S : List Code := scopesOf cadastreref23_Run_code
theorem cadastreref23_Run_l5_eq0 {ρ : Type} (k : Nat) (K : Ex → St UU → Option ρ) : ∀ (n : Nat) (v : (List S43) × (List S29) × Int × Int × Int × S29 × (List S29)), iterK UX (fun s => s.at (cadastreref23_Run_cfg (ρ := ρ) k).live (cadastreref23_Run_cfg (ρ := ρ) k).boxes (some 5)) (exec UX (cadastreref23_Run_cfg k) (cadastreref23_Run_G k) (cadastreref23_Run_L.getD 0 .skip)) n ⟨[(0, .pv (.typ (.l43 v.1))), (1, .pv (.typ (.l29 v.2.1))), (2, .pv (.int .i64 v.2.2.1)), (6, .ptr 6 0), (8, .ptr 8 0), (9, .pv (.int .i64 v.2.2.2.1)), (10, .pv (.int .i64 v.2.2.2.2.1))], [(6, [.pv (.int .i64 v.2.2.2.2.2.1.f0), .pv (.int .i64 v.2.2.2.2.2.1.f1), .pv (.str v.2.2.2.2.2.1.f2)]), (8, [.pv (.typ (.a49 v.2.2.2.2.2.2))])]⟩ (nrmK UX (cadastreref23_Run_cfg k) 5 K) = cadastreref23_Run_l5 k (fun t7 t6 => K .ret ⟨[(6, .ptr 6 0), (7, .pv (.int .i64 t7))], [(6, [.pv (.int .i64 t6.f0), .pv (.int .i64 t6.f1), .pv (.str t6.f2)])]⟩) n v.1 v.2.1 v.2.2.1 v.2.2.2.1 v.2.2.2.2.1 v.2.2.2.2.2.1 v.2.2.2.2.2.2 :=
  iter_rec (X := UX) (fun v => ⟨[(0, .pv (.typ (.l43 v.1))), (1, .pv (.typ (.l29 v.2.1))), (2, .pv (.int .i64 v.2.2.1)), (6, .ptr 6 0), (8, .ptr 8 0), (9, .pv (.int .i64 v.2.2.2.1)), (10, .pv (.int .i64 v.2.2.2.2.1))], [(6, [.pv (.int .i64 v.2.2.2.2.2.1.f0), .pv (.int .i64 v.2.2.2.2.2.1.f1), .pv (.str v.2.2.2.2.2.1.f2)]), (8, [.pv (.typ (.a49 v.2.2.2.2.2.2))])]⟩) (fun rec v => cadastreref23_Run_l5_b k (fun t7 t6 => K .ret ⟨[(6, .ptr 6 0), (7, .pv (.int .i64 t7))], [(6, [.pv (.int .i64 t6.f0), .pv (.int .i64 t6.f1), .pv (.str t6.f2)])]⟩) (fun l0 row1 most2 at9 n10 t6 r8_0 => rec (l0, row1, most2, at9, n10, t6, r8_0)) v.1 v.2.1 v.2.2.1 v.2.2.2.1 v.2.2.2.2.1 v.2.2.2.2.2.1 v.2.2.2.2.2.2) (fun n v => cadastreref23_Run_l5 k (fun t7 t6 => K .ret ⟨[(6, .ptr 6 0), (7, .pv (.int .i64 t7))], [(6, [.pv (.int .i64 t6.f0), .pv (.int .i64 t6.f1), .pv (.str t6.f2)])]⟩) n v.1 v.2.1 v.2.2.1 v.2.2.2.1 v.2.2.2.2.1 v.2.2.2.2.2.1 v.2.2.2.2.2.2) (fun n v => by kernel_rfl) (fun _ => rfl) (fun _ _ => rfl)
theorem cadastreref23_Run_l5_ok0 {ρ : Type} (k : Nat) : IterOK UX (cadastreref23_Run_cfg (ρ := ρ) k) (cadastreref23_Run_G k) (cadastreref23_Run_L.getD 0 .skip) 5 (cadastreref23_Run_l5_s k) := by
  intro s K r h
  obtain ⟨env, hp⟩ := s
  unfold cadastreref23_Run_l5_s at h
  replace h := popS_inv h; obtain ⟨v1, e2, rfl, h⟩ := h
  replace h := as_l43_inv h; obtain ⟨l0, rfl, h⟩ := h
  replace h := popS_inv h; obtain ⟨v3, e4, rfl, h⟩ := h
  replace h := as_l29_inv h; obtain ⟨row1, rfl, h⟩ := h
  replace h := popS_inv h; obtain ⟨v5, e6, rfl, h⟩ := h
  replace h := asI_inv h; obtain ⟨most2, rfl, h⟩ := h
  replace h := popS_inv h; obtain ⟨v7, e8, rfl, h⟩ := h
  replace h := asP_inv h; obtain ⟨rfl, h⟩ := h
  replace h := popS_inv h; obtain ⟨v9, e10, rfl, h⟩ := h
  replace h := asP_inv h; obtain ⟨rfl, h⟩ := h
  replace h := popS_inv h; obtain ⟨v11, e12, rfl, h⟩ := h
  replace h := asI_inv h; obtain ⟨at9, rfl, h⟩ := h
  replace h := popS_inv h; obtain ⟨v13, e14, rfl, h⟩ := h
  replace h := asI_inv h; obtain ⟨n10, rfl, h⟩ := h
  replace h := popN_inv h; obtain ⟨rfl, h⟩ := h
  replace h := popB_inv h; obtain ⟨c15, e16, rfl, h⟩ := h
  replace h := popA_inv h; obtain ⟨v17, c18, rfl, h⟩ := h
  replace h := asI_inv h; obtain ⟨z19, rfl, h⟩ := h
  replace h := popA_inv h; obtain ⟨v20, c21, rfl, h⟩ := h
  replace h := asI_inv h; obtain ⟨z22, rfl, h⟩ := h
  replace h := popA_inv h; obtain ⟨v23, c24, rfl, h⟩ := h
  replace h := asS_inv h; obtain ⟨z25, rfl, h⟩ := h
  replace h := popN_inv h; obtain ⟨rfl, h⟩ := h
  replace h := popB_inv h; obtain ⟨c26, e27, rfl, h⟩ := h
  replace h := popA_inv h; obtain ⟨v28, c29, rfl, h⟩ := h
  replace h := as_a49_inv h; obtain ⟨z30, rfl, h⟩ := h
  replace h := popN_inv h; obtain ⟨rfl, h⟩ := h
  replace h := popN_inv h; obtain ⟨rfl, h⟩ := h
  exact ⟨k, (cadastreref23_Run_l5_eq0 k K k (l0, row1, most2, at9, n10, (⟨z19, z22, z25⟩ : S29), z30)).trans h⟩
theorem cadastreref23_Run_j26_eq0 {ρ : Type} (k : Nat) (K : Ex → St UU → Option ρ) (l0 : List S43) (row1 : List S29) (most2 : Int) (at9 : Int) (n10 : Int) (bad12 : Int) (t6 : S29) (r8_0 : List S29) (c11 : S43) : exec UX (cadastreref23_Run_cfg k) (cadastreref23_Run_G k) (cadastreref23_Run_J.getD 0 .skip) ⟨[(0, .pv (.typ (.l43 l0))), (1, .pv (.typ (.l29 row1))), (2, .pv (.int .i64 most2)), (6, .ptr 6 0), (8, .ptr 8 0), (9, .pv (.int .i64 at9)), (10, .pv (.int .i64 n10)), (11, .ptr 11 0), (12, .pv (.int .i64 bad12))], [(6, [.pv (.int .i64 t6.f0), .pv (.int .i64 t6.f1), .pv (.str t6.f2)]), (8, [.pv (.typ (.a49 r8_0))]), (11, [.pv (.int .i64 c11.f0), .pv (.int .i64 c11.f1), .pv (.int .i64 c11.f2), .pv (.int .i64 c11.f3), .pv (.int .i64 c11.f4.f0), .pv (.int .i64 c11.f4.f1), .pv (.str c11.f4.f2), .pv (.int .i64 c11.f5)])]⟩ (nrmK UX (cadastreref23_Run_cfg k) 26 K) = cadastreref23_Run_j26 k (fun l0 row1 most2 at9 n10 bad12 t6 r8_0 => K .nxt ⟨[(0, .pv (.typ (.l43 l0))), (1, .pv (.typ (.l29 row1))), (2, .pv (.int .i64 most2)), (6, .ptr 6 0), (8, .ptr 8 0), (9, .pv (.int .i64 at9)), (10, .pv (.int .i64 n10)), (12, .pv (.int .i64 bad12))], [(6, [.pv (.int .i64 t6.f0), .pv (.int .i64 t6.f1), .pv (.str t6.f2)]), (8, [.pv (.typ (.a49 r8_0))])]⟩) l0 row1 most2 at9 n10 bad12 t6 r8_0 c11 := by kernel_rfl
theorem cadastreref23_Run_j26_ok0 {ρ : Type} (k : Nat) : JoinOK UX (cadastreref23_Run_cfg (ρ := ρ) k) (cadastreref23_Run_G k) (cadastreref23_Run_J.getD 0 .skip) 26 (cadastreref23_Run_j26_s k) := by
  intro s K r h
  obtain ⟨env, hp⟩ := s
  unfold cadastreref23_Run_j26_s at h
  replace h := popS_inv h; obtain ⟨v1, e2, rfl, h⟩ := h
  replace h := as_l43_inv h; obtain ⟨l0, rfl, h⟩ := h
  replace h := popS_inv h; obtain ⟨v3, e4, rfl, h⟩ := h
  replace h := as_l29_inv h; obtain ⟨row1, rfl, h⟩ := h
  replace h := popS_inv h; obtain ⟨v5, e6, rfl, h⟩ := h
  replace h := asI_inv h; obtain ⟨most2, rfl, h⟩ := h
  replace h := popS_inv h; obtain ⟨v7, e8, rfl, h⟩ := h
  replace h := asP_inv h; obtain ⟨rfl, h⟩ := h
  replace h := popS_inv h; obtain ⟨v9, e10, rfl, h⟩ := h
  replace h := asP_inv h; obtain ⟨rfl, h⟩ := h
  replace h := popS_inv h; obtain ⟨v11, e12, rfl, h⟩ := h
  replace h := asI_inv h; obtain ⟨at9, rfl, h⟩ := h
  replace h := popS_inv h; obtain ⟨v13, e14, rfl, h⟩ := h
  replace h := asI_inv h; obtain ⟨n10, rfl, h⟩ := h
  replace h := popS_inv h; obtain ⟨v15, e16, rfl, h⟩ := h
  replace h := asP_inv h; obtain ⟨rfl, h⟩ := h
  replace h := popS_inv h; obtain ⟨v17, e18, rfl, h⟩ := h
  replace h := asI_inv h; obtain ⟨bad12, rfl, h⟩ := h
  replace h := popN_inv h; obtain ⟨rfl, h⟩ := h
  replace h := popB_inv h; obtain ⟨c19, e20, rfl, h⟩ := h
  replace h := popA_inv h; obtain ⟨v21, c22, rfl, h⟩ := h
  replace h := asI_inv h; obtain ⟨z23, rfl, h⟩ := h
  replace h := popA_inv h; obtain ⟨v24, c25, rfl, h⟩ := h
  replace h := asI_inv h; obtain ⟨z26, rfl, h⟩ := h
  replace h := popA_inv h; obtain ⟨v27, c28, rfl, h⟩ := h
  replace h := asS_inv h; obtain ⟨z29, rfl, h⟩ := h
  replace h := popN_inv h; obtain ⟨rfl, h⟩ := h
  replace h := popB_inv h; obtain ⟨c30, e31, rfl, h⟩ := h
  replace h := popA_inv h; obtain ⟨v32, c33, rfl, h⟩ := h
  replace h := as_a49_inv h; obtain ⟨z34, rfl, h⟩ := h
  replace h := popN_inv h; obtain ⟨rfl, h⟩ := h
  replace h := popB_inv h; obtain ⟨c35, e36, rfl, h⟩ := h
  replace h := popA_inv h; obtain ⟨v37, c38, rfl, h⟩ := h
  replace h := asI_inv h; obtain ⟨z39, rfl, h⟩ := h
  replace h := popA_inv h; obtain ⟨v40, c41, rfl, h⟩ := h
  replace h := asI_inv h; obtain ⟨z42, rfl, h⟩ := h
  replace h := popA_inv h; obtain ⟨v43, c44, rfl, h⟩ := h
  replace h := asI_inv h; obtain ⟨z45, rfl, h⟩ := h
  replace h := popA_inv h; obtain ⟨v46, c47, rfl, h⟩ := h
  replace h := asI_inv h; obtain ⟨z48, rfl, h⟩ := h
  replace h := popA_inv h; obtain ⟨v49, c50, rfl, h⟩ := h
  replace h := asI_inv h; obtain ⟨z51, rfl, h⟩ := h
  replace h := popA_inv h; obtain ⟨v52, c53, rfl, h⟩ := h
  replace h := asI_inv h; obtain ⟨z54, rfl, h⟩ := h
  replace h := popA_inv h; obtain ⟨v55, c56, rfl, h⟩ := h
  replace h := asS_inv h; obtain ⟨z57, rfl, h⟩ := h
  replace h := popA_inv h; obtain ⟨v58, c59, rfl, h⟩ := h
  replace h := asI_inv h; obtain ⟨z60, rfl, h⟩ := h
  replace h := popN_inv h; obtain ⟨rfl, h⟩ := h
  replace h := popN_inv h; obtain ⟨rfl, h⟩ := h
  exact (cadastreref23_Run_j26_eq0 k K l0 row1 most2 at9 n10 bad12 (⟨z23, z26, z29⟩ : S29) z34 (⟨z39, z42, z45, z48, (⟨z51, z54, z57⟩ : S29), z60⟩ : S43)).trans h
theorem cadastreref23_Run_j29_eq1 {ρ : Type} (k : Nat) (K : Ex → St UU → Option ρ) (l0 : List S43) (row1 : List S29) (most2 : Int) (at9 : Int) (n10 : Int) (bad12 : Int) (t13 : Int) (t6 : S29) (r8_0 : List S29) (c11 : S43) : exec UX (cadastreref23_Run_cfg k) (cadastreref23_Run_G k) (cadastreref23_Run_J.getD 1 .skip) ⟨[(0, .pv (.typ (.l43 l0))), (1, .pv (.typ (.l29 row1))), (2, .pv (.int .i64 most2)), (6, .ptr 6 0), (8, .ptr 8 0), (9, .pv (.int .i64 at9)), (10, .pv (.int .i64 n10)), (11, .ptr 11 0), (12, .pv (.int .i64 bad12)), (13, .pv (.int .i64 t13))], [(6, [.pv (.int .i64 t6.f0), .pv (.int .i64 t6.f1), .pv (.str t6.f2)]), (8, [.pv (.typ (.a49 r8_0))]), (11, [.pv (.int .i64 c11.f0), .pv (.int .i64 c11.f1), .pv (.int .i64 c11.f2), .pv (.int .i64 c11.f3), .pv (.int .i64 c11.f4.f0), .pv (.int .i64 c11.f4.f1), .pv (.str c11.f4.f2), .pv (.int .i64 c11.f5)])]⟩ (nrmK UX (cadastreref23_Run_cfg k) 29 K) = cadastreref23_Run_j29 k (fun l0 row1 most2 at9 n10 bad12 t6 r8_0 => K .nxt ⟨[(0, .pv (.typ (.l43 l0))), (1, .pv (.typ (.l29 row1))), (2, .pv (.int .i64 most2)), (6, .ptr 6 0), (8, .ptr 8 0), (9, .pv (.int .i64 at9)), (10, .pv (.int .i64 n10)), (12, .pv (.int .i64 bad12))], [(6, [.pv (.int .i64 t6.f0), .pv (.int .i64 t6.f1), .pv (.str t6.f2)]), (8, [.pv (.typ (.a49 r8_0))])]⟩) l0 row1 most2 at9 n10 bad12 t13 t6 r8_0 c11 := by kernel_rfl
theorem cadastreref23_Run_j29_ok1 {ρ : Type} (k : Nat) : JoinOK UX (cadastreref23_Run_cfg (ρ := ρ) k) (cadastreref23_Run_G k) (cadastreref23_Run_J.getD 1 .skip) 29 (cadastreref23_Run_j29_s k) := by
  intro s K r h
  obtain ⟨env, hp⟩ := s
  unfold cadastreref23_Run_j29_s at h
  replace h := popS_inv h; obtain ⟨v1, e2, rfl, h⟩ := h
  replace h := as_l43_inv h; obtain ⟨l0, rfl, h⟩ := h
  replace h := popS_inv h; obtain ⟨v3, e4, rfl, h⟩ := h
  replace h := as_l29_inv h; obtain ⟨row1, rfl, h⟩ := h
  replace h := popS_inv h; obtain ⟨v5, e6, rfl, h⟩ := h
  replace h := asI_inv h; obtain ⟨most2, rfl, h⟩ := h
  replace h := popS_inv h; obtain ⟨v7, e8, rfl, h⟩ := h
  replace h := asP_inv h; obtain ⟨rfl, h⟩ := h
  replace h := popS_inv h; obtain ⟨v9, e10, rfl, h⟩ := h
  replace h := asP_inv h; obtain ⟨rfl, h⟩ := h
  replace h := popS_inv h; obtain ⟨v11, e12, rfl, h⟩ := h
  replace h := asI_inv h; obtain ⟨at9, rfl, h⟩ := h
  replace h := popS_inv h; obtain ⟨v13, e14, rfl, h⟩ := h
  replace h := asI_inv h; obtain ⟨n10, rfl, h⟩ := h
  replace h := popS_inv h; obtain ⟨v15, e16, rfl, h⟩ := h
  replace h := asP_inv h; obtain ⟨rfl, h⟩ := h
  replace h := popS_inv h; obtain ⟨v17, e18, rfl, h⟩ := h
  replace h := asI_inv h; obtain ⟨bad12, rfl, h⟩ := h
  replace h := popS_inv h; obtain ⟨v19, e20, rfl, h⟩ := h
  replace h := asI_inv h; obtain ⟨t13, rfl, h⟩ := h
  replace h := popN_inv h; obtain ⟨rfl, h⟩ := h
  replace h := popB_inv h; obtain ⟨c21, e22, rfl, h⟩ := h
  replace h := popA_inv h; obtain ⟨v23, c24, rfl, h⟩ := h
  replace h := asI_inv h; obtain ⟨z25, rfl, h⟩ := h
  replace h := popA_inv h; obtain ⟨v26, c27, rfl, h⟩ := h
  replace h := asI_inv h; obtain ⟨z28, rfl, h⟩ := h
  replace h := popA_inv h; obtain ⟨v29, c30, rfl, h⟩ := h
  replace h := asS_inv h; obtain ⟨z31, rfl, h⟩ := h
  replace h := popN_inv h; obtain ⟨rfl, h⟩ := h
  replace h := popB_inv h; obtain ⟨c32, e33, rfl, h⟩ := h
  replace h := popA_inv h; obtain ⟨v34, c35, rfl, h⟩ := h
  replace h := as_a49_inv h; obtain ⟨z36, rfl, h⟩ := h
  replace h := popN_inv h; obtain ⟨rfl, h⟩ := h
  replace h := popB_inv h; obtain ⟨c37, e38, rfl, h⟩ := h
  replace h := popA_inv h; obtain ⟨v39, c40, rfl, h⟩ := h
  replace h := asI_inv h; obtain ⟨z41, rfl, h⟩ := h
  replace h := popA_inv h; obtain ⟨v42, c43, rfl, h⟩ := h
  replace h := asI_inv h; obtain ⟨z44, rfl, h⟩ := h
  replace h := popA_inv h; obtain ⟨v45, c46, rfl, h⟩ := h
  replace h := asI_inv h; obtain ⟨z47, rfl, h⟩ := h
  replace h := popA_inv h; obtain ⟨v48, c49, rfl, h⟩ := h
  replace h := asI_inv h; obtain ⟨z50, rfl, h⟩ := h
  replace h := popA_inv h; obtain ⟨v51, c52, rfl, h⟩ := h
  replace h := asI_inv h; obtain ⟨z53, rfl, h⟩ := h
  replace h := popA_inv h; obtain ⟨v54, c55, rfl, h⟩ := h
  replace h := asI_inv h; obtain ⟨z56, rfl, h⟩ := h
  replace h := popA_inv h; obtain ⟨v57, c58, rfl, h⟩ := h
  replace h := asS_inv h; obtain ⟨z59, rfl, h⟩ := h
  replace h := popA_inv h; obtain ⟨v60, c61, rfl, h⟩ := h
  replace h := asI_inv h; obtain ⟨z62, rfl, h⟩ := h
  replace h := popN_inv h; obtain ⟨rfl, h⟩ := h
  replace h := popN_inv h; obtain ⟨rfl, h⟩ := h
  exact (cadastreref23_Run_j29_eq1 k K l0 row1 most2 at9 n10 bad12 t13 (⟨z25, z28, z31⟩ : S29) z36 (⟨z41, z44, z47, z50, (⟨z53, z56, z59⟩ : S29), z62⟩ : S43)).trans h
theorem cadastreref23_Run_cok {ρ : Type} (k : Nat) : COK (cadastreref23_Run_cfg (ρ := ρ) k) (cadastreref23_Run_G k) cadastreref23_Run_code :=
  cok_of (tl := [(5, cadastreref23_Run_l5_s k)]) (tj := [(29, cadastreref23_Run_j29_s k), (26, cadastreref23_Run_j26_s k)]) (tb := []) rfl rfl rfl (all_nth 1 (by kernel_rfl) ⟨iter_case (by kernel_rfl) rfl (cadastreref23_Run_l5_ok0 k), trivial⟩) (all_nth 2 (by kernel_rfl) ⟨join_case (by kernel_rfl) rfl (cadastreref23_Run_j29_ok1 k), join_case (by kernel_rfl) rfl (cadastreref23_Run_j26_ok0 k), trivial⟩) (fun p hp => by cases hp)
noncomputable def cadastreref23_Run_enc (r : S29 × Int) : AV UU := .pv (.tup [.typ (.s29 r.1), .int .i64 r.2])
noncomputable def cadastreref23_Run_dec (v : AV UU) (_ : List (List (AV UU))) : Option (S29 × Int) :=
asT v fun q1 =>
popA q1 fun p2 q3 =>
as_s29 (.pv p2) fun r0 =>
popA q3 fun p4 q5 =>
asI .i64 (.pv p4) fun r1 =>
popN q5 <|
some (r0, r1)
theorem cadastreref23_Run_dec_enc (v : AV UU) (b : List (List (AV UU))) (r : S29 × Int) (h : cadastreref23_Run_dec v b = some r) : v = cadastreref23_Run_enc r := by
  unfold cadastreref23_Run_dec at h
  replace h := asT_inv h; obtain ⟨q1, rfl, h⟩ := h
  replace h := popA_inv h; obtain ⟨p2, q3, rfl, h⟩ := h
  replace h := as_s29_inv h; obtain ⟨r0, e, h⟩ := h; cases e
  replace h := popA_inv h; obtain ⟨p4, q5, rfl, h⟩ := h
  replace h := asI_inv h; obtain ⟨r1, e, h⟩ := h; cases e
  replace h := popN_inv h; obtain ⟨rfl, h⟩ := h
  cases h
  rfl
theorem cadastreref23_Run_eq (k : Nat) (l0 : List S43) (row1 : List S29) (most2 : Int) : bodyK UX (cadastreref23_Run_cfg k) (cadastreref23_Run_G k) Tryd.f8 [.pv (.typ (.l43 l0)), .pv (.typ (.l29 row1)), .pv (.int .i64 most2)] [] cadastreref23_Run_dec = cadastreref23_Run k l0 row1 most2 := by kernel_rfl
theorem cadastreref23_Run_con (k : Nat) (l0 : List S43) (row1 : List S29) (most2 : Int) (r : S29 × Int) (h : cadastreref23_Run k l0 row1 most2 = some r) : Con (X := UX) Tryd.prog 8 [.pv (.typ (.l43 l0)), .pv (.typ (.l29 row1)), .pv (.int .i64 most2)] [] (cadastreref23_Run_enc r) [] :=
  con_of_body xok tok Tryd.func8 cadastreref23_Run_body (cadastreref23_Run_gok k) rfl (cadastreref23_Run_cok k) (of_decide_eq_true (by kernel_rfl)) cadastreref23_Run_dec_enc ((cadastreref23_Run_eq k l0 row1 most2).trans h)
noncomputable def cadastreref23_Run_an {ρ : Type} (k : Nat) : An UX ρ := fun args bx K =>
popA args fun v1 a2 =>
as_l43 v1 fun l0 =>
popA a2 fun v3 a4 =>
as_l29 v3 fun row1 =>
popA a4 fun v5 a6 =>
asI .i64 v5 fun most2 =>
popN a6 <|
popN bx <|
(cadastreref23_Run k l0 row1 most2).bind fun r => K (cadastreref23_Run_enc r) []
theorem cadastreref23_Run_ok {ρ : Type} (k : Nat) : AnsOK Tryd.prog 8 (cadastreref23_Run_an (ρ := ρ) k) := by
  intro args bx K r h
  unfold cadastreref23_Run_an at h
  replace h := popA_inv h; obtain ⟨v1, a2, rfl, h⟩ := h
  replace h := as_l43_inv h; obtain ⟨l0, rfl, h⟩ := h
  replace h := popA_inv h; obtain ⟨v3, a4, rfl, h⟩ := h
  replace h := as_l29_inv h; obtain ⟨row1, rfl, h⟩ := h
  replace h := popA_inv h; obtain ⟨v5, a6, rfl, h⟩ := h
  replace h := asI_inv h; obtain ⟨most2, rfl, h⟩ := h
  replace h := popN_inv h; obtain ⟨rfl, h⟩ := h
  replace h := popN_inv h; obtain ⟨rfl, h⟩ := h
  replace h := bind_inv h
  obtain ⟨x, hx, h⟩ := h
  exact ⟨there_of Tryd.func8 (by kernel_rfl) cadastreref23_Run_body, _, _, h, cadastreref23_Run_con k l0 row1 most2 x hx⟩

/-! cadastre/cadastreref0.CopyCodes -/
noncomputable def cadastreref0_CopyCodes_code : Code := match Tryd.f9.body with | some c => c | none => .skip
theorem cadastreref0_CopyCodes_body : Tryd.f9.body = some cadastreref0_CopyCodes_code := by kernel_rfl
noncomputable def cadastreref0_CopyCodes_G {ρ : Type} (k : Nat) : Ans UX ρ := gnil
theorem cadastreref0_CopyCodes_gok {ρ : Type} (k : Nat) : GOK Tryd.prog (cadastreref0_CopyCodes_G (ρ := ρ) k) := gok_nil
noncomputable def cadastreref0_CopyCodes_l3_s {ρ : Type} (k : Nat) : Run UX ρ := fun s K =>
popS 0 s.env fun v1 e2 =>
as_l43 v1 fun l0 =>
popS 3 e2 fun v3 e4 =>
asO_l43 v3 fun m3 =>
popS 4 e4 fun v5 e6 =>
asI .i64 v5 fun i4 =>
popN e6 <|
popN s.hp <|
cadastreref0_CopyCodes_l3 k (fun m3 => K (.exit 0) ⟨[(3, .own (.l43 m3))], []⟩) k l0 m3 i4
noncomputable def cadastreref0_CopyCodes_cfg {ρ : Type} (k : Nat) : Cfg UX ρ where
  live i := (assoc [(0, [0]), (1, [0]), (2, [0, 3]), (3, [0, 3, 4]), (4, [0, 3, 4]), (5, [0, 3, 4]), (6, [3])] i).getD []
  boxes i := (assoc [(0, []), (1, []), (2, []), (3, []), (4, []), (5, []), (6, [])] i).getD []
  tk i := (assoc [(1000000, [2, 3])] i).getD []
  n := 19
  labelR l := (assoc [] l).getD 0
  loops := assoc [(3, cadastreref0_CopyCodes_l3_s k)]
  labels := assoc []
  joins := assoc []
  xl i e := match e with
    | .nxt => assoc [] i
    | .ret => assoc [] i
    | .exit j => (assoc [(3, [(0, ([3], []))])] i).bind fun l => assoc l j
    | .goto j => (assoc [] i).bind fun l => assoc l j
noncomputable def cadastreref0_CopyCodes_L : List Code := selI [3] (loopsOf cadastreref0_CopyCodes_code)
noncomputable def cadastreref0_CopyCodes_J : List Code := selI [] (joinsOf cadastreref0_CopyCodes_code)
noncomputable def cadastreref0_CopyCodes_S : List Code := scopesOf cadastreref0_CopyCodes_code
theorem cadastreref0_CopyCodes_l3_eq0 {ρ : Type} (k : Nat) (K : Ex → St UU → Option ρ) : ∀ (n : Nat) (v : (List S43) × (List S43) × Int), iterK UX (fun s => s.at (cadastreref0_CopyCodes_cfg (ρ := ρ) k).live (cadastreref0_CopyCodes_cfg (ρ := ρ) k).boxes (some 3)) (exec UX (cadastreref0_CopyCodes_cfg k) (cadastreref0_CopyCodes_G k) (cadastreref0_CopyCodes_L.getD 0 .skip)) n ⟨[(0, .pv (.typ (.l43 v.1))), (3, .own (.l43 v.2.1)), (4, .pv (.int .i64 v.2.2))], []⟩ (nrmK UX (cadastreref0_CopyCodes_cfg k) 3 K) = cadastreref0_CopyCodes_l3 k (fun m3 => K (.exit 0) ⟨[(3, .own (.l43 m3))], []⟩) n v.1 v.2.1 v.2.2 :=
  iter_rec (X := UX) (fun v => ⟨[(0, .pv (.typ (.l43 v.1))), (3, .own (.l43 v.2.1)), (4, .pv (.int .i64 v.2.2))], []⟩) (fun rec v => cadastreref0_CopyCodes_l3_b k (fun m3 => K (.exit 0) ⟨[(3, .own (.l43 m3))], []⟩) (fun l0 m3 i4 => rec (l0, m3, i4)) v.1 v.2.1 v.2.2) (fun n v => cadastreref0_CopyCodes_l3 k (fun m3 => K (.exit 0) ⟨[(3, .own (.l43 m3))], []⟩) n v.1 v.2.1 v.2.2) (fun n v => by kernel_rfl) (fun _ => rfl) (fun _ _ => rfl)
theorem cadastreref0_CopyCodes_l3_ok0 {ρ : Type} (k : Nat) : IterOK UX (cadastreref0_CopyCodes_cfg (ρ := ρ) k) (cadastreref0_CopyCodes_G k) (cadastreref0_CopyCodes_L.getD 0 .skip) 3 (cadastreref0_CopyCodes_l3_s k) := by
  intro s K r h
  obtain ⟨env, hp⟩ := s
  unfold cadastreref0_CopyCodes_l3_s at h
  replace h := popS_inv h; obtain ⟨v1, e2, rfl, h⟩ := h
  replace h := as_l43_inv h; obtain ⟨l0, rfl, h⟩ := h
  replace h := popS_inv h; obtain ⟨v3, e4, rfl, h⟩ := h
  replace h := asO_l43_inv h; obtain ⟨m3, rfl, h⟩ := h
  replace h := popS_inv h; obtain ⟨v5, e6, rfl, h⟩ := h
  replace h := asI_inv h; obtain ⟨i4, rfl, h⟩ := h
  replace h := popN_inv h; obtain ⟨rfl, h⟩ := h
  replace h := popN_inv h; obtain ⟨rfl, h⟩ := h
  exact ⟨k, (cadastreref0_CopyCodes_l3_eq0 k K k (l0, m3, i4)).trans h⟩
theorem cadastreref0_CopyCodes_cok {ρ : Type} (k : Nat) : COK (cadastreref0_CopyCodes_cfg (ρ := ρ) k) (cadastreref0_CopyCodes_G k) cadastreref0_CopyCodes_code :=
  cok_of (tl := [(3, cadastreref0_CopyCodes_l3_s k)]) (tj := []) (tb := []) rfl rfl rfl (all_nth 1 (by kernel_rfl) ⟨iter_case (by kernel_rfl) rfl (cadastreref0_CopyCodes_l3_ok0 k), trivial⟩) (nil_all (by kernel_rfl)) (fun p hp => by cases hp)
noncomputable def cadastreref0_CopyCodes_enc (r : (List S43)) : AV UU := .own (.l43 r)
noncomputable def cadastreref0_CopyCodes_dec (v : AV UU) (_ : List (List (AV UU))) : Option (List S43) :=
asO_l43 v fun r =>
some r
theorem cadastreref0_CopyCodes_dec_enc (v : AV UU) (b : List (List (AV UU))) (r : (List S43)) (h : cadastreref0_CopyCodes_dec v b = some r) : v = cadastreref0_CopyCodes_enc r := by
  unfold cadastreref0_CopyCodes_dec at h
  replace h := asO_l43_inv h; obtain ⟨r, rfl, h⟩ := h
  cases h
  rfl
theorem cadastreref0_CopyCodes_eq (k : Nat) (l0 : List S43) : bodyK UX (cadastreref0_CopyCodes_cfg k) (cadastreref0_CopyCodes_G k) Tryd.f9 [.pv (.typ (.l43 l0))] [] cadastreref0_CopyCodes_dec = cadastreref0_CopyCodes k l0 := by kernel_rfl
theorem cadastreref0_CopyCodes_con (k : Nat) (l0 : List S43) (r : (List S43)) (h : cadastreref0_CopyCodes k l0 = some r) : Con (X := UX) Tryd.prog 9 [.pv (.typ (.l43 l0))] [] (cadastreref0_CopyCodes_enc r) [] :=
  con_of_body xok tok Tryd.func9 cadastreref0_CopyCodes_body (cadastreref0_CopyCodes_gok k) rfl (cadastreref0_CopyCodes_cok k) (of_decide_eq_true (by kernel_rfl)) cadastreref0_CopyCodes_dec_enc ((cadastreref0_CopyCodes_eq k l0).trans h)
noncomputable def cadastreref0_CopyCodes_an {ρ : Type} (k : Nat) : An UX ρ := fun args bx K =>
popA args fun v1 a2 =>
as_l43 v1 fun l0 =>
popN a2 <|
popN bx <|
(cadastreref0_CopyCodes k l0).bind fun r => K (cadastreref0_CopyCodes_enc r) []
theorem cadastreref0_CopyCodes_ok {ρ : Type} (k : Nat) : AnsOK Tryd.prog 9 (cadastreref0_CopyCodes_an (ρ := ρ) k) := by
  intro args bx K r h
  unfold cadastreref0_CopyCodes_an at h
  replace h := popA_inv h; obtain ⟨v1, a2, rfl, h⟩ := h
  replace h := as_l43_inv h; obtain ⟨l0, rfl, h⟩ := h
  replace h := popN_inv h; obtain ⟨rfl, h⟩ := h
  replace h := popN_inv h; obtain ⟨rfl, h⟩ := h
  replace h := bind_inv h
  obtain ⟨x, hx, h⟩ := h
  exact ⟨there_of Tryd.func9 (by kernel_rfl) cadastreref0_CopyCodes_body, _, _, h, cadastreref0_CopyCodes_con k l0 x hx⟩

/-! cadastre/vm.reg -/
noncomputable def vm_reg_code : Code := match Tryd.f46.body with | some c => c | none => .skip
theorem vm_reg_body : Tryd.f46.body = some vm_reg_code := by kernel_rfl
noncomputable def vm_reg_G {ρ : Type} (k : Nat) : Ans UX ρ := gnil
theorem vm_reg_gok {ρ : Type} (k : Nat) : GOK Tryd.prog (vm_reg_G (ρ := ρ) k) := gok_nil
noncomputable def vm_reg_cfg {ρ : Type} (k : Nat) : Cfg UX ρ where
  live i := (assoc [(0, [0]), (1, [0])] i).getD []
  boxes i := (assoc [(0, []), (1, [])] i).getD []
  tk i := (assoc [] i).getD []
  n := 9
  labelR l := (assoc [] l).getD 0
  loops := assoc []
  labels := assoc []
  joins := assoc []
  xl i e := match e with
    | .nxt => assoc [] i
    | .ret => assoc [] i
    | .exit j => (assoc [] i).bind fun l => assoc l j
    | .goto j => (assoc [] i).bind fun l => assoc l j
noncomputable def vm_reg_L : List Code := selI [] (loopsOf vm_reg_code)
noncomputable def vm_reg_J : List Code := selI [] (joinsOf vm_reg_code)
noncomputable def vm_reg_S : List Code := scopesOf vm_reg_code
theorem vm_reg_cok {ρ : Type} (k : Nat) : COK (vm_reg_cfg (ρ := ρ) k) (vm_reg_G k) vm_reg_code :=
  cok_of (tl := []) (tj := []) (tb := []) rfl rfl rfl (nil_all (by kernel_rfl)) (nil_all (by kernel_rfl)) (fun p hp => by cases hp)
noncomputable def vm_reg_enc (r : Bool) : AV UU := .pv (.bool r)
noncomputable def vm_reg_dec (v : AV UU) (_ : List (List (AV UU))) : Option Bool :=
asB v fun r0 =>
some r0
theorem vm_reg_dec_enc (v : AV UU) (b : List (List (AV UU))) (r : Bool) (h : vm_reg_dec v b = some r) : v = vm_reg_enc r := by
  unfold vm_reg_dec at h
  replace h := asB_inv h; obtain ⟨r0, rfl, h⟩ := h
  cases h
  rfl
theorem vm_reg_eq (k : Nat) (n0 : Int) : bodyK UX (vm_reg_cfg k) (vm_reg_G k) Tryd.f46 [.pv (.int .i64 n0)] [] vm_reg_dec = vm_reg k n0 := by kernel_rfl
theorem vm_reg_con (k : Nat) (n0 : Int) (r : Bool) (h : vm_reg k n0 = some r) : Con (X := UX) Tryd.prog 46 [.pv (.int .i64 n0)] [] (vm_reg_enc r) [] :=
  con_of_body xok tok Tryd.func46 vm_reg_body (vm_reg_gok k) rfl (vm_reg_cok k) (of_decide_eq_true (by kernel_rfl)) vm_reg_dec_enc ((vm_reg_eq k n0).trans h)
noncomputable def vm_reg_an {ρ : Type} (k : Nat) : An UX ρ := fun args bx K =>
popA args fun v1 a2 =>
asI .i64 v1 fun n0 =>
popN a2 <|
popN bx <|
(vm_reg k n0).bind fun r => K (vm_reg_enc r) []
theorem vm_reg_ok {ρ : Type} (k : Nat) : AnsOK Tryd.prog 46 (vm_reg_an (ρ := ρ) k) := by
  intro args bx K r h
  unfold vm_reg_an at h
  replace h := popA_inv h; obtain ⟨v1, a2, rfl, h⟩ := h
  replace h := asI_inv h; obtain ⟨n0, rfl, h⟩ := h
  replace h := popN_inv h; obtain ⟨rfl, h⟩ := h
  replace h := popN_inv h; obtain ⟨rfl, h⟩ := h
  replace h := bind_inv h
  obtain ⟨x, hx, h⟩ := h
  exact ⟨there_of Tryd.func46 (by kernel_rfl) vm_reg_body, _, _, h, vm_reg_con k n0 x hx⟩

/-! cadastre/value.Good -/
noncomputable def value_Good_code : Code := match Tryd.f40.body with | some c => c | none => .skip
theorem value_Good_body : Tryd.f40.body = some value_Good_code := by kernel_rfl
noncomputable def value_Good_G {ρ : Type} (k : Nat) : Ans UX ρ := gnil
theorem value_Good_gok {ρ : Type} (k : Nat) : GOK Tryd.prog (value_Good_G (ρ := ρ) k) := gok_nil
noncomputable def value_Good_j8_s {ρ : Type} (k : Nat) : Run UX ρ := fun s K =>
popS 1 s.env fun v1 e2 =>
asP 1 0 v1 <|
popN e2 <|
popB 1 s.hp fun c3 e4 =>
popA c3 fun v5 c6 =>
asI .i64 v5 fun z7 =>
popA c6 fun v8 c9 =>
asI .i64 v8 fun z10 =>
popA c9 fun v11 c12 =>
asS v11 fun z13 =>
popN c12 <|
popN e4 <|
value_Good_j8 k (fun t2 => K .ret ⟨[(2, .pv (.bool t2))], []⟩) (⟨z7, z10, z13⟩ : S29)
noncomputable def value_Good_cfg {ρ : Type} (k : Nat) : Cfg UX ρ where
  live i := (assoc [(0, [0]), (1, [1]), (2, [1, 4]), (3, [1]), (4, [1, 4]), (5, [1]), (6, [1, 4]), (7, [1, 4]), (8, [1]), (9, [])] i).getD []
  boxes i := (assoc [(0, []), (1, [1]), (2, [1]), (3, [1]), (4, [1]), (5, [1]), (6, [1]), (7, [1]), (8, [1]), (9, [])] i).getD []
  tk i := (assoc [] i).getD []
  n := 27
  labelR l := (assoc [] l).getD 0
  loops := assoc []
  labels := assoc []
  joins := assoc [(8, value_Good_j8_s k)]
  xl i e := match e with
    | .nxt => assoc [] i
    | .ret => assoc [(8, ([2], []))] i
    | .exit j => (assoc [] i).bind fun l => assoc l j
    | .goto j => (assoc [] i).bind fun l => assoc l j
noncomputable def value_Good_L : List Code := selI [] (loopsOf value_Good_code)
noncomputable def value_Good_J : List Code := selI [8] (joinsOf value_Good_code)
noncomputable def value_Good_S : List Code := scopesOf value_Good_code
theorem value_Good_j8_eq0 {ρ : Type} (k : Nat) (K : Ex → St UU → Option ρ) (v1 : S29) : exec UX (value_Good_cfg k) (value_Good_G k) (value_Good_J.getD 0 .skip) ⟨[(1, .ptr 1 0)], [(1, [.pv (.int .i64 v1.f0), .pv (.int .i64 v1.f1), .pv (.str v1.f2)])]⟩ (nrmK UX (value_Good_cfg k) 8 K) = value_Good_j8 k (fun t2 => K .ret ⟨[(2, .pv (.bool t2))], []⟩) v1 := by kernel_rfl
theorem value_Good_j8_ok0 {ρ : Type} (k : Nat) : JoinOK UX (value_Good_cfg (ρ := ρ) k) (value_Good_G k) (value_Good_J.getD 0 .skip) 8 (value_Good_j8_s k) := by
  intro s K r h
  obtain ⟨env, hp⟩ := s
  unfold value_Good_j8_s at h
  replace h := popS_inv h; obtain ⟨v1, e2, rfl, h⟩ := h
  replace h := asP_inv h; obtain ⟨rfl, h⟩ := h
  replace h := popN_inv h; obtain ⟨rfl, h⟩ := h
  replace h := popB_inv h; obtain ⟨c3, e4, rfl, h⟩ := h
  replace h := popA_inv h; obtain ⟨v5, c6, rfl, h⟩ := h
  replace h := asI_inv h; obtain ⟨z7, rfl, h⟩ := h
  replace h := popA_inv h; obtain ⟨v8, c9, rfl, h⟩ := h
  replace h := asI_inv h; obtain ⟨z10, rfl, h⟩ := h
  replace h := popA_inv h; obtain ⟨v11, c12, rfl, h⟩ := h
  replace h := asS_inv h; obtain ⟨z13, rfl, h⟩ := h
  replace h := popN_inv h; obtain ⟨rfl, h⟩ := h
  replace h := popN_inv h; obtain ⟨rfl, h⟩ := h
  exact (value_Good_j8_eq0 k K (⟨z7, z10, z13⟩ : S29)).trans h
theorem value_Good_cok {ρ : Type} (k : Nat) : COK (value_Good_cfg (ρ := ρ) k) (value_Good_G k) value_Good_code :=
  cok_of (tl := []) (tj := [(8, value_Good_j8_s k)]) (tb := []) rfl rfl rfl (nil_all (by kernel_rfl)) (all_nth 1 (by kernel_rfl) ⟨join_case (by kernel_rfl) rfl (value_Good_j8_ok0 k), trivial⟩) (fun p hp => by cases hp)
noncomputable def value_Good_enc (r : Bool) : AV UU := .pv (.bool r)
noncomputable def value_Good_dec (v : AV UU) (_ : List (List (AV UU))) : Option Bool :=
asB v fun r0 =>
some r0
theorem value_Good_dec_enc (v : AV UU) (b : List (List (AV UU))) (r : Bool) (h : value_Good_dec v b = some r) : v = value_Good_enc r := by
  unfold value_Good_dec at h
  replace h := asB_inv h; obtain ⟨r0, rfl, h⟩ := h
  cases h
  rfl
theorem value_Good_eq (k : Nat) (v0 : S29) : bodyK UX (value_Good_cfg k) (value_Good_G k) Tryd.f40 [.pv (.typ (.s29 v0))] [] value_Good_dec = value_Good k v0 := by kernel_rfl
theorem value_Good_con (k : Nat) (v0 : S29) (r : Bool) (h : value_Good k v0 = some r) : Con (X := UX) Tryd.prog 40 [.pv (.typ (.s29 v0))] [] (value_Good_enc r) [] :=
  con_of_body xok tok Tryd.func40 value_Good_body (value_Good_gok k) rfl (value_Good_cok k) (of_decide_eq_true (by kernel_rfl)) value_Good_dec_enc ((value_Good_eq k v0).trans h)
noncomputable def value_Good_an {ρ : Type} (k : Nat) : An UX ρ := fun args bx K =>
popA args fun v1 a2 =>
as_s29 v1 fun v0 =>
popN a2 <|
popN bx <|
(value_Good k v0).bind fun r => K (value_Good_enc r) []
theorem value_Good_ok {ρ : Type} (k : Nat) : AnsOK Tryd.prog 40 (value_Good_an (ρ := ρ) k) := by
  intro args bx K r h
  unfold value_Good_an at h
  replace h := popA_inv h; obtain ⟨v1, a2, rfl, h⟩ := h
  replace h := as_s29_inv h; obtain ⟨v0, rfl, h⟩ := h
  replace h := popN_inv h; obtain ⟨rfl, h⟩ := h
  replace h := popN_inv h; obtain ⟨rfl, h⟩ := h
  replace h := bind_inv h
  obtain ⟨x, hx, h⟩ := h
  exact ⟨there_of Tryd.func40 (by kernel_rfl) value_Good_body, _, _, h, value_Good_con k v0 x hx⟩
end Go.Proofs.YtjkgphpmdkbpfaaDoor.V
