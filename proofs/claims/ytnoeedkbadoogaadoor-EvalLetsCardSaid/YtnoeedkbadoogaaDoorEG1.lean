/-
  What the program's functions answer: the printed functions' answers.
-/
import Derived.Test.YtnoeedkbadoogaaDoorEG0
namespace Go.Proofs.YtnoeedkbadoogaaDoor.E
open Go Go.AX
noncomputable def bind_Plain_code : Code := match Tryd.f64.body with | some c => c | none => .skip
theorem bind_Plain_body : Tryd.f64.body = some bind_Plain_code := by kernel_rfl
noncomputable def bind_Plain_enc (r : S25) : AV UU := .pv (.typ (.s25 r))
structure bind_Plain_R_ok (rc : bind_Plain_R) : Prop where
  bind_Plain : ∀ (e0 : S25) (r : S25), rc.bind_Plain e0 = some r → Con (X := UX) Tryd.prog 64 [.pv (.typ (.s25 e0))] [] (bind_Plain_enc r) []
noncomputable def bind_Plain_ran {ρ : Type} (rc : bind_Plain_R) : An UX ρ := fun args bx K =>
popA args fun v1 a2 =>
as_s25 v1 fun e0 =>
popN a2 <|
popN bx <|
(rc.bind_Plain e0).bind fun r => K (bind_Plain_enc r) []
theorem bind_Plain_rok {ρ : Type} (rc : bind_Plain_R) (hrc : bind_Plain_R_ok rc) : AnsOK Tryd.prog 64 (bind_Plain_ran (ρ := ρ) rc) := by
  intro args bx K r h
  unfold bind_Plain_ran at h
  replace h := popA_inv h; obtain ⟨v1, a2, rfl, h⟩ := h
  replace h := as_s25_inv h; obtain ⟨e0, rfl, h⟩ := h
  replace h := popN_inv h; obtain ⟨rfl, h⟩ := h
  replace h := popN_inv h; obtain ⟨rfl, h⟩ := h
  replace h := bind_inv h
  obtain ⟨x, hx, h⟩ := h
  exact ⟨there_of Tryd.func64 (by kernel_rfl) bind_Plain_body, _, _, h, hrc.bind_Plain e0 x hx⟩
/-! cadastre/bind.Plain -/
noncomputable def bind_Plain_G {ρ : Type} (k : Nat) (rc : bind_Plain_R) : Ans UX ρ := gk 95 (api_Expr__95_an k) (gk 64 (bind_Plain_ran rc) (gnil))
theorem bind_Plain_gok {ρ : Type} (k : Nat) (rc : bind_Plain_R) (hrc : bind_Plain_R_ok rc) : GOK Tryd.prog (bind_Plain_G (ρ := ρ) k rc) := gok_cons (api_Expr__95_ok k) (gok_cons (bind_Plain_rok rc hrc) (gok_nil))
noncomputable def bind_Plain_l5_s {ρ : Type} (k : Nat) (rc : bind_Plain_R) : Run UX ρ := fun s K =>
popS 1 s.env fun v1 e2 =>
asP 1 0 v1 <|
popS 2 e2 fun v3 e4 =>
asP 2 0 v3 <|
popS 3 e4 fun v5 e6 =>
asO_l25 v5 fun args3 =>
popS 14 e6 fun v7 e8 =>
asL 3 v7 <|
popS 15 e8 fun v9 e10 =>
asI .i64 v9 fun t15 =>
popS 16 e10 fun v11 e12 =>
asI .i64 v11 fun t16 =>
popN e12 <|
popB 1 s.hp fun c13 e14 =>
popA c13 fun v15 c16 =>
asI .i64 v15 fun z17 =>
popA c16 fun v18 c19 =>
asI .i64 v18 fun z20 =>
popA c19 fun v21 c22 =>
asI .i64 v21 fun z23 =>
popA c22 fun v24 c25 =>
asS v24 fun z26 =>
popA c25 fun v27 c28 =>
asS v27 fun z29 =>
popA c28 fun v30 c31 =>
asS v30 fun z32 =>
popA c31 fun v33 c34 =>
as_l25 v33 fun z35 =>
popN c34 <|
popB 2 e14 fun c36 e37 =>
popA c36 fun v38 c39 =>
asI .i64 v38 fun z40 =>
popA c39 fun v41 c42 =>
asI .i64 v41 fun z43 =>
popA c42 fun v44 c45 =>
asI .i64 v44 fun z46 =>
popA c45 fun v47 c48 =>
asS v47 fun z49 =>
popA c48 fun v50 c51 =>
asS v50 fun z52 =>
popA c51 fun v53 c54 =>
asS v53 fun z55 =>
popA c54 fun v56 c57 =>
as_l25 v56 fun z58 =>
popN c57 <|
popN e37 <|
bind_Plain_l5 k rc (fun args3 e1 t2 => K (.exit 0) ⟨[(1, .ptr 1 0), (2, .ptr 2 0), (3, .own (.l25 args3))], [(1, [.pv (.int .i64 e1.f0), .pv (.int .i64 e1.f1.f0), .pv (.int .i64 e1.f1.f1), .pv (.str e1.f1.f2), .pv (.str e1.f2), .pv (.str e1.f3), .pv (.typ (.l25 e1.f4))]), (2, [.pv (.int .i64 t2.f0), .pv (.int .i64 t2.f1.f0), .pv (.int .i64 t2.f1.f1), .pv (.str t2.f1.f2), .pv (.str t2.f2), .pv (.str t2.f3), .pv (.typ (.l25 t2.f4))])]⟩) k args3 t15 t16 (⟨z17, (⟨z20, z23, z26⟩ : S23), z29, z32, z35⟩ : S25) (⟨z40, (⟨z43, z46, z49⟩ : S23), z52, z55, z58⟩ : S25)
noncomputable def bind_Plain_j3_s {ρ : Type} (k : Nat) (rc : bind_Plain_R) : Run UX ρ := fun s K =>
popS 1 s.env fun v1 e2 =>
asP 1 0 v1 <|
popS 2 e2 fun v3 e4 =>
asP 2 0 v3 <|
popN e4 <|
popB 1 s.hp fun c5 e6 =>
popA c5 fun v7 c8 =>
asI .i64 v7 fun z9 =>
popA c8 fun v10 c11 =>
asI .i64 v10 fun z12 =>
popA c11 fun v13 c14 =>
asI .i64 v13 fun z15 =>
popA c14 fun v16 c17 =>
asS v16 fun z18 =>
popA c17 fun v19 c20 =>
asS v19 fun z21 =>
popA c20 fun v22 c23 =>
asS v22 fun z24 =>
popA c23 fun v25 c26 =>
as_l25 v25 fun z27 =>
popN c26 <|
popB 2 e6 fun c28 e29 =>
popA c28 fun v30 c31 =>
asI .i64 v30 fun z32 =>
popA c31 fun v33 c34 =>
asI .i64 v33 fun z35 =>
popA c34 fun v36 c37 =>
asI .i64 v36 fun z38 =>
popA c37 fun v39 c40 =>
asS v39 fun z41 =>
popA c40 fun v42 c43 =>
asS v42 fun z44 =>
popA c43 fun v45 c46 =>
asS v45 fun z47 =>
popA c46 fun v48 c49 =>
as_l25 v48 fun z50 =>
popN c49 <|
popN e29 <|
bind_Plain_j3 k rc (fun t2 => K .ret ⟨[(2, .ptr 2 0)], [(2, [.pv (.int .i64 t2.f0), .pv (.int .i64 t2.f1.f0), .pv (.int .i64 t2.f1.f1), .pv (.str t2.f1.f2), .pv (.str t2.f2), .pv (.str t2.f3), .pv (.typ (.l25 t2.f4))])]⟩) (⟨z9, (⟨z12, z15, z18⟩ : S23), z21, z24, z27⟩ : S25) (⟨z32, (⟨z35, z38, z41⟩ : S23), z44, z47, z50⟩ : S25)
noncomputable def bind_Plain_cfg {ρ : Type} (k : Nat) (rc : bind_Plain_R) : Cfg UX ρ where
  live i := (assoc [(0, [0]), (1, [1, 2]), (2, [1, 2]), (3, [1, 2]), (4, [1, 2, 3]), (5, [1, 2, 3, 14, 15, 16]), (6, [1, 2, 3, 14, 15, 16]), (7, [1, 2, 3, 4, 5, 14, 15, 16]), (8, [1, 2, 3, 14, 15, 16]), (9, [1, 2, 3]), (10, [1, 2])] i).getD []
  boxes i := (assoc [(0, []), (1, [1, 2]), (2, [1, 2]), (3, [1, 2]), (4, [1, 2]), (5, [1, 2]), (6, [1, 2]), (7, [1, 2, 5]), (8, [1, 2]), (9, [1, 2]), (10, [1, 2])] i).getD []
  tk i := (assoc [] i).getD []
  n := 30
  labelR l := (assoc [] l).getD 0
  loops := assoc [(5, bind_Plain_l5_s k rc)]
  labels := assoc []
  joins := assoc [(3, bind_Plain_j3_s k rc)]
  xl i e := match e with
    | .nxt => assoc [] i
    | .ret => assoc [(3, ([2], [2]))] i
    | .exit j => (assoc [(5, [(0, ([1, 2, 3], [1, 2]))])] i).bind fun l => assoc l j
    | .goto j => (assoc [] i).bind fun l => assoc l j
noncomputable def bind_Plain_L : List Code := selI [5] (loopsOf bind_Plain_code)
noncomputable def bind_Plain_J : List Code := selI [3] (joinsOf bind_Plain_code)
noncomputable def bind_Plain_S : List Code := scopesOf bind_Plain_code
theorem bind_Plain_l5_eq0 {ρ : Type} (k : Nat) (rc : bind_Plain_R) (K : Ex → St UU → Option ρ) : ∀ (n : Nat) (v : (List T25) × Int × Int × S25 × S25), iterK UX (fun s => s.at (bind_Plain_cfg (ρ := ρ) k rc).live (bind_Plain_cfg (ρ := ρ) k rc).boxes (some 5)) (exec UX (bind_Plain_cfg k rc) (bind_Plain_G k rc) (bind_Plain_L.getD 0 .skip)) n ⟨[(1, .ptr 1 0), (2, .ptr 2 0), (3, .own (.l25 v.1)), (14, .bor (.slot 3)), (15, .pv (.int .i64 v.2.1)), (16, .pv (.int .i64 v.2.2.1))], [(1, [.pv (.int .i64 v.2.2.2.1.f0), .pv (.int .i64 v.2.2.2.1.f1.f0), .pv (.int .i64 v.2.2.2.1.f1.f1), .pv (.str v.2.2.2.1.f1.f2), .pv (.str v.2.2.2.1.f2), .pv (.str v.2.2.2.1.f3), .pv (.typ (.l25 v.2.2.2.1.f4))]), (2, [.pv (.int .i64 v.2.2.2.2.f0), .pv (.int .i64 v.2.2.2.2.f1.f0), .pv (.int .i64 v.2.2.2.2.f1.f1), .pv (.str v.2.2.2.2.f1.f2), .pv (.str v.2.2.2.2.f2), .pv (.str v.2.2.2.2.f3), .pv (.typ (.l25 v.2.2.2.2.f4))])]⟩ (nrmK UX (bind_Plain_cfg k rc) 5 K) = bind_Plain_l5 k rc (fun args3 e1 t2 => K (.exit 0) ⟨[(1, .ptr 1 0), (2, .ptr 2 0), (3, .own (.l25 args3))], [(1, [.pv (.int .i64 e1.f0), .pv (.int .i64 e1.f1.f0), .pv (.int .i64 e1.f1.f1), .pv (.str e1.f1.f2), .pv (.str e1.f2), .pv (.str e1.f3), .pv (.typ (.l25 e1.f4))]), (2, [.pv (.int .i64 t2.f0), .pv (.int .i64 t2.f1.f0), .pv (.int .i64 t2.f1.f1), .pv (.str t2.f1.f2), .pv (.str t2.f2), .pv (.str t2.f3), .pv (.typ (.l25 t2.f4))])]⟩) n v.1 v.2.1 v.2.2.1 v.2.2.2.1 v.2.2.2.2 :=
  iter_rec (X := UX) (fun v => ⟨[(1, .ptr 1 0), (2, .ptr 2 0), (3, .own (.l25 v.1)), (14, .bor (.slot 3)), (15, .pv (.int .i64 v.2.1)), (16, .pv (.int .i64 v.2.2.1))], [(1, [.pv (.int .i64 v.2.2.2.1.f0), .pv (.int .i64 v.2.2.2.1.f1.f0), .pv (.int .i64 v.2.2.2.1.f1.f1), .pv (.str v.2.2.2.1.f1.f2), .pv (.str v.2.2.2.1.f2), .pv (.str v.2.2.2.1.f3), .pv (.typ (.l25 v.2.2.2.1.f4))]), (2, [.pv (.int .i64 v.2.2.2.2.f0), .pv (.int .i64 v.2.2.2.2.f1.f0), .pv (.int .i64 v.2.2.2.2.f1.f1), .pv (.str v.2.2.2.2.f1.f2), .pv (.str v.2.2.2.2.f2), .pv (.str v.2.2.2.2.f3), .pv (.typ (.l25 v.2.2.2.2.f4))])]⟩) (fun rec v => bind_Plain_l5_b k rc (fun args3 e1 t2 => K (.exit 0) ⟨[(1, .ptr 1 0), (2, .ptr 2 0), (3, .own (.l25 args3))], [(1, [.pv (.int .i64 e1.f0), .pv (.int .i64 e1.f1.f0), .pv (.int .i64 e1.f1.f1), .pv (.str e1.f1.f2), .pv (.str e1.f2), .pv (.str e1.f3), .pv (.typ (.l25 e1.f4))]), (2, [.pv (.int .i64 t2.f0), .pv (.int .i64 t2.f1.f0), .pv (.int .i64 t2.f1.f1), .pv (.str t2.f1.f2), .pv (.str t2.f2), .pv (.str t2.f3), .pv (.typ (.l25 t2.f4))])]⟩) (fun args3 t15 t16 e1 t2 => rec (args3, t15, t16, e1, t2)) v.1 v.2.1 v.2.2.1 v.2.2.2.1 v.2.2.2.2) (fun n v => bind_Plain_l5 k rc (fun args3 e1 t2 => K (.exit 0) ⟨[(1, .ptr 1 0), (2, .ptr 2 0), (3, .own (.l25 args3))], [(1, [.pv (.int .i64 e1.f0), .pv (.int .i64 e1.f1.f0), .pv (.int .i64 e1.f1.f1), .pv (.str e1.f1.f2), .pv (.str e1.f2), .pv (.str e1.f3), .pv (.typ (.l25 e1.f4))]), (2, [.pv (.int .i64 t2.f0), .pv (.int .i64 t2.f1.f0), .pv (.int .i64 t2.f1.f1), .pv (.str t2.f1.f2), .pv (.str t2.f2), .pv (.str t2.f3), .pv (.typ (.l25 t2.f4))])]⟩) n v.1 v.2.1 v.2.2.1 v.2.2.2.1 v.2.2.2.2) (fun n v => by kernel_rfl) (fun _ => rfl) (fun _ _ => rfl)
theorem bind_Plain_l5_ok0 {ρ : Type} (k : Nat) (rc : bind_Plain_R) : IterOK UX (bind_Plain_cfg (ρ := ρ) k rc) (bind_Plain_G k rc) (bind_Plain_L.getD 0 .skip) 5 (bind_Plain_l5_s k rc) := by
  intro s K r h
  obtain ⟨env, hp⟩ := s
  unfold bind_Plain_l5_s at h
  replace h := popS_inv h; obtain ⟨v1, e2, rfl, h⟩ := h
  replace h := asP_inv h; obtain ⟨rfl, h⟩ := h
  replace h := popS_inv h; obtain ⟨v3, e4, rfl, h⟩ := h
  replace h := asP_inv h; obtain ⟨rfl, h⟩ := h
  replace h := popS_inv h; obtain ⟨v5, e6, rfl, h⟩ := h
  replace h := asO_l25_inv h; obtain ⟨args3, rfl, h⟩ := h
  replace h := popS_inv h; obtain ⟨v7, e8, rfl, h⟩ := h
  replace h := asL_inv h; obtain ⟨rfl, h⟩ := h
  replace h := popS_inv h; obtain ⟨v9, e10, rfl, h⟩ := h
  replace h := asI_inv h; obtain ⟨t15, rfl, h⟩ := h
  replace h := popS_inv h; obtain ⟨v11, e12, rfl, h⟩ := h
  replace h := asI_inv h; obtain ⟨t16, rfl, h⟩ := h
  replace h := popN_inv h; obtain ⟨rfl, h⟩ := h
  replace h := popB_inv h; obtain ⟨c13, e14, rfl, h⟩ := h
  replace h := popA_inv h; obtain ⟨v15, c16, rfl, h⟩ := h
  replace h := asI_inv h; obtain ⟨z17, rfl, h⟩ := h
  replace h := popA_inv h; obtain ⟨v18, c19, rfl, h⟩ := h
  replace h := asI_inv h; obtain ⟨z20, rfl, h⟩ := h
  replace h := popA_inv h; obtain ⟨v21, c22, rfl, h⟩ := h
  replace h := asI_inv h; obtain ⟨z23, rfl, h⟩ := h
  replace h := popA_inv h; obtain ⟨v24, c25, rfl, h⟩ := h
  replace h := asS_inv h; obtain ⟨z26, rfl, h⟩ := h
  replace h := popA_inv h; obtain ⟨v27, c28, rfl, h⟩ := h
  replace h := asS_inv h; obtain ⟨z29, rfl, h⟩ := h
  replace h := popA_inv h; obtain ⟨v30, c31, rfl, h⟩ := h
  replace h := asS_inv h; obtain ⟨z32, rfl, h⟩ := h
  replace h := popA_inv h; obtain ⟨v33, c34, rfl, h⟩ := h
  replace h := as_l25_inv h; obtain ⟨z35, rfl, h⟩ := h
  replace h := popN_inv h; obtain ⟨rfl, h⟩ := h
  replace h := popB_inv h; obtain ⟨c36, e37, rfl, h⟩ := h
  replace h := popA_inv h; obtain ⟨v38, c39, rfl, h⟩ := h
  replace h := asI_inv h; obtain ⟨z40, rfl, h⟩ := h
  replace h := popA_inv h; obtain ⟨v41, c42, rfl, h⟩ := h
  replace h := asI_inv h; obtain ⟨z43, rfl, h⟩ := h
  replace h := popA_inv h; obtain ⟨v44, c45, rfl, h⟩ := h
  replace h := asI_inv h; obtain ⟨z46, rfl, h⟩ := h
  replace h := popA_inv h; obtain ⟨v47, c48, rfl, h⟩ := h
  replace h := asS_inv h; obtain ⟨z49, rfl, h⟩ := h
  replace h := popA_inv h; obtain ⟨v50, c51, rfl, h⟩ := h
  replace h := asS_inv h; obtain ⟨z52, rfl, h⟩ := h
  replace h := popA_inv h; obtain ⟨v53, c54, rfl, h⟩ := h
  replace h := asS_inv h; obtain ⟨z55, rfl, h⟩ := h
  replace h := popA_inv h; obtain ⟨v56, c57, rfl, h⟩ := h
  replace h := as_l25_inv h; obtain ⟨z58, rfl, h⟩ := h
  replace h := popN_inv h; obtain ⟨rfl, h⟩ := h
  replace h := popN_inv h; obtain ⟨rfl, h⟩ := h
  exact ⟨k, (bind_Plain_l5_eq0 k rc K k (args3, t15, t16, (⟨z17, (⟨z20, z23, z26⟩ : S23), z29, z32, z35⟩ : S25), (⟨z40, (⟨z43, z46, z49⟩ : S23), z52, z55, z58⟩ : S25))).trans h⟩
theorem bind_Plain_j3_eq0 {ρ : Type} (k : Nat) (rc : bind_Plain_R) (K : Ex → St UU → Option ρ) (e1 : S25) (t2 : S25) : exec UX (bind_Plain_cfg k rc) (bind_Plain_G k rc) (bind_Plain_J.getD 0 .skip) ⟨[(1, .ptr 1 0), (2, .ptr 2 0)], [(1, [.pv (.int .i64 e1.f0), .pv (.int .i64 e1.f1.f0), .pv (.int .i64 e1.f1.f1), .pv (.str e1.f1.f2), .pv (.str e1.f2), .pv (.str e1.f3), .pv (.typ (.l25 e1.f4))]), (2, [.pv (.int .i64 t2.f0), .pv (.int .i64 t2.f1.f0), .pv (.int .i64 t2.f1.f1), .pv (.str t2.f1.f2), .pv (.str t2.f2), .pv (.str t2.f3), .pv (.typ (.l25 t2.f4))])]⟩ (nrmK UX (bind_Plain_cfg k rc) 3 K) = bind_Plain_j3 k rc (fun t2 => K .ret ⟨[(2, .ptr 2 0)], [(2, [.pv (.int .i64 t2.f0), .pv (.int .i64 t2.f1.f0), .pv (.int .i64 t2.f1.f1), .pv (.str t2.f1.f2), .pv (.str t2.f2), .pv (.str t2.f3), .pv (.typ (.l25 t2.f4))])]⟩) e1 t2 := by kernel_rfl
theorem bind_Plain_j3_ok0 {ρ : Type} (k : Nat) (rc : bind_Plain_R) : JoinOK UX (bind_Plain_cfg (ρ := ρ) k rc) (bind_Plain_G k rc) (bind_Plain_J.getD 0 .skip) 3 (bind_Plain_j3_s k rc) := by
  intro s K r h
  obtain ⟨env, hp⟩ := s
  unfold bind_Plain_j3_s at h
  replace h := popS_inv h; obtain ⟨v1, e2, rfl, h⟩ := h
  replace h := asP_inv h; obtain ⟨rfl, h⟩ := h
  replace h := popS_inv h; obtain ⟨v3, e4, rfl, h⟩ := h
  replace h := asP_inv h; obtain ⟨rfl, h⟩ := h
  replace h := popN_inv h; obtain ⟨rfl, h⟩ := h
  replace h := popB_inv h; obtain ⟨c5, e6, rfl, h⟩ := h
  replace h := popA_inv h; obtain ⟨v7, c8, rfl, h⟩ := h
  replace h := asI_inv h; obtain ⟨z9, rfl, h⟩ := h
  replace h := popA_inv h; obtain ⟨v10, c11, rfl, h⟩ := h
  replace h := asI_inv h; obtain ⟨z12, rfl, h⟩ := h
  replace h := popA_inv h; obtain ⟨v13, c14, rfl, h⟩ := h
  replace h := asI_inv h; obtain ⟨z15, rfl, h⟩ := h
  replace h := popA_inv h; obtain ⟨v16, c17, rfl, h⟩ := h
  replace h := asS_inv h; obtain ⟨z18, rfl, h⟩ := h
  replace h := popA_inv h; obtain ⟨v19, c20, rfl, h⟩ := h
  replace h := asS_inv h; obtain ⟨z21, rfl, h⟩ := h
  replace h := popA_inv h; obtain ⟨v22, c23, rfl, h⟩ := h
  replace h := asS_inv h; obtain ⟨z24, rfl, h⟩ := h
  replace h := popA_inv h; obtain ⟨v25, c26, rfl, h⟩ := h
  replace h := as_l25_inv h; obtain ⟨z27, rfl, h⟩ := h
  replace h := popN_inv h; obtain ⟨rfl, h⟩ := h
  replace h := popB_inv h; obtain ⟨c28, e29, rfl, h⟩ := h
  replace h := popA_inv h; obtain ⟨v30, c31, rfl, h⟩ := h
  replace h := asI_inv h; obtain ⟨z32, rfl, h⟩ := h
  replace h := popA_inv h; obtain ⟨v33, c34, rfl, h⟩ := h
  replace h := asI_inv h; obtain ⟨z35, rfl, h⟩ := h
  replace h := popA_inv h; obtain ⟨v36, c37, rfl, h⟩ := h
  replace h := asI_inv h; obtain ⟨z38, rfl, h⟩ := h
  replace h := popA_inv h; obtain ⟨v39, c40, rfl, h⟩ := h
  replace h := asS_inv h; obtain ⟨z41, rfl, h⟩ := h
  replace h := popA_inv h; obtain ⟨v42, c43, rfl, h⟩ := h
  replace h := asS_inv h; obtain ⟨z44, rfl, h⟩ := h
  replace h := popA_inv h; obtain ⟨v45, c46, rfl, h⟩ := h
  replace h := asS_inv h; obtain ⟨z47, rfl, h⟩ := h
  replace h := popA_inv h; obtain ⟨v48, c49, rfl, h⟩ := h
  replace h := as_l25_inv h; obtain ⟨z50, rfl, h⟩ := h
  replace h := popN_inv h; obtain ⟨rfl, h⟩ := h
  replace h := popN_inv h; obtain ⟨rfl, h⟩ := h
  exact (bind_Plain_j3_eq0 k rc K (⟨z9, (⟨z12, z15, z18⟩ : S23), z21, z24, z27⟩ : S25) (⟨z32, (⟨z35, z38, z41⟩ : S23), z44, z47, z50⟩ : S25)).trans h
theorem bind_Plain_cok {ρ : Type} (k : Nat) (rc : bind_Plain_R) : COK (bind_Plain_cfg (ρ := ρ) k rc) (bind_Plain_G k rc) bind_Plain_code :=
  cok_of (tl := [(5, bind_Plain_l5_s k rc)]) (tj := [(3, bind_Plain_j3_s k rc)]) (tb := []) rfl rfl rfl (all_nth 1 (by kernel_rfl) ⟨iter_case (by kernel_rfl) rfl (bind_Plain_l5_ok0 k rc), trivial⟩) (all_nth 1 (by kernel_rfl) ⟨join_case (by kernel_rfl) rfl (bind_Plain_j3_ok0 k rc), trivial⟩) (fun p hp => by cases hp)
noncomputable def bind_Plain_dec (v : AV UU) (_ : List (List (AV UU))) : Option S25 :=
as_s25 v fun r0 =>
some r0
theorem bind_Plain_dec_enc (v : AV UU) (b : List (List (AV UU))) (r : S25) (h : bind_Plain_dec v b = some r) : v = bind_Plain_enc r := by
  unfold bind_Plain_dec at h
  replace h := as_s25_inv h; obtain ⟨r0, rfl, h⟩ := h
  cases h
  rfl
theorem bind_Plain_eq (k : Nat) (rc : bind_Plain_R) (e0 : S25) : bodyK UX (bind_Plain_cfg k rc) (bind_Plain_G k rc) Tryd.f64 [.pv (.typ (.s25 e0))] [] bind_Plain_dec = bind_Plain_r k rc e0 := by kernel_rfl
theorem bind_Plain_con_r (k : Nat) (rc : bind_Plain_R) (hrc : bind_Plain_R_ok rc) (e0 : S25) (r : S25) (h : bind_Plain_r k rc e0 = some r) : Con (X := UX) Tryd.prog 64 [.pv (.typ (.s25 e0))] [] (bind_Plain_enc r) [] :=
  con_of_body xok tok Tryd.func64 bind_Plain_body (bind_Plain_gok k rc hrc) rfl (bind_Plain_cok k rc) (of_decide_eq_true (by kernel_rfl)) bind_Plain_dec_enc ((bind_Plain_eq k rc e0).trans h)
theorem bind_Plain_R_itok (k : Nat) : ∀ d, bind_Plain_R_ok (bind_Plain_R_it k d)
  | 0 => ⟨fun e0 r h => by have e : (none : Option S25) = some r := h; cases e⟩
  | d + 1 => ⟨fun e0 r h => bind_Plain_con_r k (bind_Plain_R_it k d) (bind_Plain_R_itok k d) e0 r h⟩
theorem bind_Plain_con (k : Nat) (e0 : S25) (r : S25) (h : bind_Plain k e0 = some r) : Con (X := UX) Tryd.prog 64 [.pv (.typ (.s25 e0))] [] (bind_Plain_enc r) [] := (bind_Plain_R_itok k k).bind_Plain e0 r h
noncomputable def bind_Plain_an {ρ : Type} (k : Nat) : An UX ρ := fun args bx K =>
popA args fun v1 a2 =>
as_s25 v1 fun e0 =>
popN a2 <|
popN bx <|
(bind_Plain k e0).bind fun r => K (bind_Plain_enc r) []
theorem bind_Plain_ok {ρ : Type} (k : Nat) : AnsOK Tryd.prog 64 (bind_Plain_an (ρ := ρ) k) := by
  intro args bx K r h
  unfold bind_Plain_an at h
  replace h := popA_inv h; obtain ⟨v1, a2, rfl, h⟩ := h
  replace h := as_s25_inv h; obtain ⟨e0, rfl, h⟩ := h
  replace h := popN_inv h; obtain ⟨rfl, h⟩ := h
  replace h := popN_inv h; obtain ⟨rfl, h⟩ := h
  replace h := bind_inv h
  obtain ⟨x, hx, h⟩ := h
  exact ⟨there_of Tryd.func64 (by kernel_rfl) bind_Plain_body, _, _, h, bind_Plain_con k e0 x hx⟩

/-! cadastre/print.args -/
noncomputable def print_args_code : Code := match Tryd.f75.body with | some c => c | none => .skip
theorem print_args_body : Tryd.f75.body = some print_args_code := by kernel_rfl
noncomputable def print_args_G {ρ : Type} (k : Nat) : Ans UX ρ := gnil
theorem print_args_gok {ρ : Type} (k : Nat) : GOK Tryd.prog (print_args_G (ρ := ρ) k) := gok_nil
noncomputable def print_args_j5_s {ρ : Type} (k : Nat) : Run UX ρ := fun s K =>
popS 0 s.env fun v1 e2 =>
asI .i64 v1 fun op0 =>
popN e2 <|
popN s.hp <|
print_args_j5 k (fun t2 => K .ret ⟨[(2, .pv (.int .i64 t2))], []⟩) (K .nxt ⟨[], []⟩) op0
noncomputable def print_args_j3_s {ρ : Type} (k : Nat) : Run UX ρ := fun s K =>
popS 0 s.env fun v1 e2 =>
asI .i64 v1 fun op0 =>
popN e2 <|
popN s.hp <|
print_args_j3 k (fun t2 => K .ret ⟨[(2, .pv (.int .i64 t2))], []⟩) (K .nxt ⟨[], []⟩) op0
noncomputable def print_args_cfg {ρ : Type} (k : Nat) : Cfg UX ρ where
  live i := (assoc [(0, [0]), (1, [0]), (2, []), (3, [0]), (4, []), (5, [0]), (6, []), (7, [])] i).getD []
  boxes i := (assoc [(0, []), (1, []), (2, []), (3, []), (4, []), (5, []), (6, []), (7, [])] i).getD []
  tk i := (assoc [] i).getD []
  n := 36
  labelR l := (assoc [] l).getD 0
  loops := assoc []
  labels := assoc []
  joins := assoc [(5, print_args_j5_s k), (3, print_args_j3_s k)]
  xl i e := match e with
    | .nxt => assoc [(5, ([], [])), (3, ([], []))] i
    | .ret => assoc [(5, ([2], [])), (3, ([2], []))] i
    | .exit j => (assoc [] i).bind fun l => assoc l j
    | .goto j => (assoc [] i).bind fun l => assoc l j
noncomputable def print_args_L : List Code := selI [] (loopsOf print_args_code)
noncomputable def print_args_J : List Code := selI [5, 3] (joinsOf print_args_code)
noncomputable def print_args_S : List Code := scopesOf print_args_code
theorem print_args_j3_eq0 {ρ : Type} (k : Nat) (K : Ex → St UU → Option ρ) (op0 : Int) : exec UX (print_args_cfg k) (print_args_G k) (print_args_J.getD 0 .skip) ⟨[(0, .pv (.int .i64 op0))], []⟩ (nrmK UX (print_args_cfg k) 3 K) = print_args_j3 k (fun t2 => K .ret ⟨[(2, .pv (.int .i64 t2))], []⟩) (K .nxt ⟨[], []⟩) op0 := by kernel_rfl
theorem print_args_j3_ok0 {ρ : Type} (k : Nat) : JoinOK UX (print_args_cfg (ρ := ρ) k) (print_args_G k) (print_args_J.getD 0 .skip) 3 (print_args_j3_s k) := by
  intro s K r h
  obtain ⟨env, hp⟩ := s
  unfold print_args_j3_s at h
  replace h := popS_inv h; obtain ⟨v1, e2, rfl, h⟩ := h
  replace h := asI_inv h; obtain ⟨op0, rfl, h⟩ := h
  replace h := popN_inv h; obtain ⟨rfl, h⟩ := h
  replace h := popN_inv h; obtain ⟨rfl, h⟩ := h
  exact (print_args_j3_eq0 k K op0).trans h
theorem print_args_j5_eq1 {ρ : Type} (k : Nat) (K : Ex → St UU → Option ρ) (op0 : Int) : exec UX (print_args_cfg k) (print_args_G k) (print_args_J.getD 1 .skip) ⟨[(0, .pv (.int .i64 op0))], []⟩ (nrmK UX (print_args_cfg k) 5 K) = print_args_j5 k (fun t2 => K .ret ⟨[(2, .pv (.int .i64 t2))], []⟩) (K .nxt ⟨[], []⟩) op0 := by kernel_rfl
theorem print_args_j5_ok1 {ρ : Type} (k : Nat) : JoinOK UX (print_args_cfg (ρ := ρ) k) (print_args_G k) (print_args_J.getD 1 .skip) 5 (print_args_j5_s k) := by
  intro s K r h
  obtain ⟨env, hp⟩ := s
  unfold print_args_j5_s at h
  replace h := popS_inv h; obtain ⟨v1, e2, rfl, h⟩ := h
  replace h := asI_inv h; obtain ⟨op0, rfl, h⟩ := h
  replace h := popN_inv h; obtain ⟨rfl, h⟩ := h
  replace h := popN_inv h; obtain ⟨rfl, h⟩ := h
  exact (print_args_j5_eq1 k K op0).trans h
theorem print_args_cok {ρ : Type} (k : Nat) : COK (print_args_cfg (ρ := ρ) k) (print_args_G k) print_args_code :=
  cok_of (tl := []) (tj := [(5, print_args_j5_s k), (3, print_args_j3_s k)]) (tb := []) rfl rfl rfl (nil_all (by kernel_rfl)) (all_nth 2 (by kernel_rfl) ⟨join_case (by kernel_rfl) rfl (print_args_j5_ok1 k), join_case (by kernel_rfl) rfl (print_args_j3_ok0 k), trivial⟩) (fun p hp => by cases hp)
noncomputable def print_args_enc (r : Int) : AV UU := .pv (.int .i64 r)
noncomputable def print_args_dec (v : AV UU) (_ : List (List (AV UU))) : Option Int :=
asI .i64 v fun r0 =>
some r0
theorem print_args_dec_enc (v : AV UU) (b : List (List (AV UU))) (r : Int) (h : print_args_dec v b = some r) : v = print_args_enc r := by
  unfold print_args_dec at h
  replace h := asI_inv h; obtain ⟨r0, rfl, h⟩ := h
  cases h
  rfl
theorem print_args_eq (k : Nat) (op0 : Int) : bodyK UX (print_args_cfg k) (print_args_G k) Tryd.f75 [.pv (.int .i64 op0)] [] print_args_dec = print_args k op0 := by kernel_rfl
theorem print_args_con (k : Nat) (op0 : Int) (r : Int) (h : print_args k op0 = some r) : Con (X := UX) Tryd.prog 75 [.pv (.int .i64 op0)] [] (print_args_enc r) [] :=
  con_of_body xok tok Tryd.func75 print_args_body (print_args_gok k) rfl (print_args_cok k) (of_decide_eq_true (by kernel_rfl)) print_args_dec_enc ((print_args_eq k op0).trans h)
noncomputable def print_args_an {ρ : Type} (k : Nat) : An UX ρ := fun args bx K =>
popA args fun v1 a2 =>
asI .i64 v1 fun op0 =>
popN a2 <|
popN bx <|
(print_args k op0).bind fun r => K (print_args_enc r) []
theorem print_args_ok {ρ : Type} (k : Nat) : AnsOK Tryd.prog 75 (print_args_an (ρ := ρ) k) := by
  intro args bx K r h
  unfold print_args_an at h
  replace h := popA_inv h; obtain ⟨v1, a2, rfl, h⟩ := h
  replace h := asI_inv h; obtain ⟨op0, rfl, h⟩ := h
  replace h := popN_inv h; obtain ⟨rfl, h⟩ := h
  replace h := popN_inv h; obtain ⟨rfl, h⟩ := h
  replace h := bind_inv h
  obtain ⟨x, hx, h⟩ := h
  exact ⟨there_of Tryd.func75 (by kernel_rfl) print_args_body, _, _, h, print_args_con k op0 x hx⟩

/-! cadastre/print.literal -/
noncomputable def print_literal_code : Code := match Tryd.f76.body with | some c => c | none => .skip
theorem print_literal_body : Tryd.f76.body = some print_literal_code := by kernel_rfl
noncomputable def print_literal_G {ρ : Type} (k : Nat) : Ans UX ρ := gk 61 (value_Good_an k) (gnil)
theorem print_literal_gok {ρ : Type} (k : Nat) : GOK Tryd.prog (print_literal_G (ρ := ρ) k) := gok_cons (value_Good_ok k) (gok_nil)
noncomputable def print_literal_cfg {ρ : Type} (k : Nat) : Cfg UX ρ where
  live i := (assoc [(0, [0]), (1, [1])] i).getD []
  boxes i := (assoc [(0, []), (1, [1])] i).getD []
  tk i := (assoc [] i).getD []
  n := 15
  labelR l := (assoc [] l).getD 0
  loops := assoc []
  labels := assoc []
  joins := assoc []
  xl i e := match e with
    | .nxt => assoc [] i
    | .ret => assoc [] i
    | .exit j => (assoc [] i).bind fun l => assoc l j
    | .goto j => (assoc [] i).bind fun l => assoc l j
noncomputable def print_literal_L : List Code := selI [] (loopsOf print_literal_code)
noncomputable def print_literal_J : List Code := selI [] (joinsOf print_literal_code)
noncomputable def print_literal_S : List Code := scopesOf print_literal_code
theorem print_literal_cok {ρ : Type} (k : Nat) : COK (print_literal_cfg (ρ := ρ) k) (print_literal_G k) print_literal_code :=
  cok_of (tl := []) (tj := []) (tb := []) rfl rfl rfl (nil_all (by kernel_rfl)) (nil_all (by kernel_rfl)) (fun p hp => by cases hp)
noncomputable def print_literal_enc (r : Bool) : AV UU := .pv (.bool r)
noncomputable def print_literal_dec (v : AV UU) (_ : List (List (AV UU))) : Option Bool :=
asB v fun r0 =>
some r0
theorem print_literal_dec_enc (v : AV UU) (b : List (List (AV UU))) (r : Bool) (h : print_literal_dec v b = some r) : v = print_literal_enc r := by
  unfold print_literal_dec at h
  replace h := asB_inv h; obtain ⟨r0, rfl, h⟩ := h
  cases h
  rfl
theorem print_literal_eq (k : Nat) (v0 : S23) : bodyK UX (print_literal_cfg k) (print_literal_G k) Tryd.f76 [.pv (.typ (.s23 v0))] [] print_literal_dec = print_literal k v0 := by kernel_rfl
theorem print_literal_con (k : Nat) (v0 : S23) (r : Bool) (h : print_literal k v0 = some r) : Con (X := UX) Tryd.prog 76 [.pv (.typ (.s23 v0))] [] (print_literal_enc r) [] :=
  con_of_body xok tok Tryd.func76 print_literal_body (print_literal_gok k) rfl (print_literal_cok k) (of_decide_eq_true (by kernel_rfl)) print_literal_dec_enc ((print_literal_eq k v0).trans h)
noncomputable def print_literal_an {ρ : Type} (k : Nat) : An UX ρ := fun args bx K =>
popA args fun v1 a2 =>
as_s23 v1 fun v0 =>
popN a2 <|
popN bx <|
(print_literal k v0).bind fun r => K (print_literal_enc r) []
theorem print_literal_ok {ρ : Type} (k : Nat) : AnsOK Tryd.prog 76 (print_literal_an (ρ := ρ) k) := by
  intro args bx K r h
  unfold print_literal_an at h
  replace h := popA_inv h; obtain ⟨v1, a2, rfl, h⟩ := h
  replace h := as_s23_inv h; obtain ⟨v0, rfl, h⟩ := h
  replace h := popN_inv h; obtain ⟨rfl, h⟩ := h
  replace h := popN_inv h; obtain ⟨rfl, h⟩ := h
  replace h := bind_inv h
  obtain ⟨x, hx, h⟩ := h
  exact ⟨there_of Tryd.func76 (by kernel_rfl) print_literal_body, _, _, h, print_literal_con k v0 x hx⟩

/-! internal/stringslite.HasPrefix -/
noncomputable def stringslite_HasPrefix_code : Code := match Tryd.f139.body with | some c => c | none => .skip
theorem stringslite_HasPrefix_body : Tryd.f139.body = some stringslite_HasPrefix_code := by kernel_rfl
noncomputable def stringslite_HasPrefix_G {ρ : Type} (k : Nat) : Ans UX ρ := gnil
theorem stringslite_HasPrefix_gok {ρ : Type} (k : Nat) : GOK Tryd.prog (stringslite_HasPrefix_G (ρ := ρ) k) := gok_nil
noncomputable def stringslite_HasPrefix_cfg {ρ : Type} (k : Nat) : Cfg UX ρ where
  live i := (assoc [(0, [0, 1]), (1, [0, 1])] i).getD []
  boxes i := (assoc [(0, []), (1, [])] i).getD []
  tk i := (assoc [] i).getD []
  n := 18
  labelR l := (assoc [] l).getD 0
  loops := assoc []
  labels := assoc []
  joins := assoc []
  xl i e := match e with
    | .nxt => assoc [] i
    | .ret => assoc [] i
    | .exit j => (assoc [] i).bind fun l => assoc l j
    | .goto j => (assoc [] i).bind fun l => assoc l j
noncomputable def stringslite_HasPrefix_L : List Code := selI [] (loopsOf stringslite_HasPrefix_code)
noncomputable def stringslite_HasPrefix_J : List Code := selI [] (joinsOf stringslite_HasPrefix_code)
noncomputable def stringslite_HasPrefix_S : List Code := scopesOf stringslite_HasPrefix_code
theorem stringslite_HasPrefix_cok {ρ : Type} (k : Nat) : COK (stringslite_HasPrefix_cfg (ρ := ρ) k) (stringslite_HasPrefix_G k) stringslite_HasPrefix_code :=
  cok_of (tl := []) (tj := []) (tb := []) rfl rfl rfl (nil_all (by kernel_rfl)) (nil_all (by kernel_rfl)) (fun p hp => by cases hp)
noncomputable def stringslite_HasPrefix_enc (r : Bool) : AV UU := .pv (.bool r)
noncomputable def stringslite_HasPrefix_dec (v : AV UU) (_ : List (List (AV UU))) : Option Bool :=
asB v fun r0 =>
some r0
theorem stringslite_HasPrefix_dec_enc (v : AV UU) (b : List (List (AV UU))) (r : Bool) (h : stringslite_HasPrefix_dec v b = some r) : v = stringslite_HasPrefix_enc r := by
  unfold stringslite_HasPrefix_dec at h
  replace h := asB_inv h; obtain ⟨r0, rfl, h⟩ := h
  cases h
  rfl
theorem stringslite_HasPrefix_eq (k : Nat) (s0 : ByteArray) (prefix1 : ByteArray) : bodyK UX (stringslite_HasPrefix_cfg k) (stringslite_HasPrefix_G k) Tryd.f139 [.pv (.str s0), .pv (.str prefix1)] [] stringslite_HasPrefix_dec = stringslite_HasPrefix k s0 prefix1 := by kernel_rfl
theorem stringslite_HasPrefix_con (k : Nat) (s0 : ByteArray) (prefix1 : ByteArray) (r : Bool) (h : stringslite_HasPrefix k s0 prefix1 = some r) : Con (X := UX) Tryd.prog 139 [.pv (.str s0), .pv (.str prefix1)] [] (stringslite_HasPrefix_enc r) [] :=
  con_of_body xok tok Tryd.func139 stringslite_HasPrefix_body (stringslite_HasPrefix_gok k) rfl (stringslite_HasPrefix_cok k) (of_decide_eq_true (by kernel_rfl)) stringslite_HasPrefix_dec_enc ((stringslite_HasPrefix_eq k s0 prefix1).trans h)
noncomputable def stringslite_HasPrefix_an {ρ : Type} (k : Nat) : An UX ρ := fun args bx K =>
popA args fun v1 a2 =>
asS v1 fun s0 =>
popA a2 fun v3 a4 =>
asS v3 fun prefix1 =>
popN a4 <|
popN bx <|
(stringslite_HasPrefix k s0 prefix1).bind fun r => K (stringslite_HasPrefix_enc r) []
theorem stringslite_HasPrefix_ok {ρ : Type} (k : Nat) : AnsOK Tryd.prog 139 (stringslite_HasPrefix_an (ρ := ρ) k) := by
  intro args bx K r h
  unfold stringslite_HasPrefix_an at h
  replace h := popA_inv h; obtain ⟨v1, a2, rfl, h⟩ := h
  replace h := asS_inv h; obtain ⟨s0, rfl, h⟩ := h
  replace h := popA_inv h; obtain ⟨v3, a4, rfl, h⟩ := h
  replace h := asS_inv h; obtain ⟨prefix1, rfl, h⟩ := h
  replace h := popN_inv h; obtain ⟨rfl, h⟩ := h
  replace h := popN_inv h; obtain ⟨rfl, h⟩ := h
  replace h := bind_inv h
  obtain ⟨x, hx, h⟩ := h
  exact ⟨there_of Tryd.func139 (by kernel_rfl) stringslite_HasPrefix_body, _, _, h, stringslite_HasPrefix_con k s0 prefix1 x hx⟩

/-! strings.HasPrefix -/
noncomputable def strings_HasPrefix_code : Code := match Tryd.f125.body with | some c => c | none => .skip
theorem strings_HasPrefix_body : Tryd.f125.body = some strings_HasPrefix_code := by kernel_rfl
noncomputable def strings_HasPrefix_G {ρ : Type} (k : Nat) : Ans UX ρ := gk 139 (stringslite_HasPrefix_an k) (gnil)
theorem strings_HasPrefix_gok {ρ : Type} (k : Nat) : GOK Tryd.prog (strings_HasPrefix_G (ρ := ρ) k) := gok_cons (stringslite_HasPrefix_ok k) (gok_nil)
noncomputable def strings_HasPrefix_cfg {ρ : Type} (k : Nat) : Cfg UX ρ where
  live i := (assoc [(0, [0, 1]), (1, [0, 1])] i).getD []
  boxes i := (assoc [(0, []), (1, [])] i).getD []
  tk i := (assoc [] i).getD []
  n := 8
  labelR l := (assoc [] l).getD 0
  loops := assoc []
  labels := assoc []
  joins := assoc []
  xl i e := match e with
    | .nxt => assoc [] i
    | .ret => assoc [] i
    | .exit j => (assoc [] i).bind fun l => assoc l j
    | .goto j => (assoc [] i).bind fun l => assoc l j
noncomputable def strings_HasPrefix_L : List Code := selI [] (loopsOf strings_HasPrefix_code)
noncomputable def strings_HasPrefix_J : List Code := selI [] (joinsOf strings_HasPrefix_code)
noncomputable def strings_HasPrefix_S : List Code := scopesOf strings_HasPrefix_code
theorem strings_HasPrefix_cok {ρ : Type} (k : Nat) : COK (strings_HasPrefix_cfg (ρ := ρ) k) (strings_HasPrefix_G k) strings_HasPrefix_code :=
  cok_of (tl := []) (tj := []) (tb := []) rfl rfl rfl (nil_all (by kernel_rfl)) (nil_all (by kernel_rfl)) (fun p hp => by cases hp)
noncomputable def strings_HasPrefix_enc (r : Bool) : AV UU := .pv (.bool r)
noncomputable def strings_HasPrefix_dec (v : AV UU) (_ : List (List (AV UU))) : Option Bool :=
asB v fun r0 =>
some r0
theorem strings_HasPrefix_dec_enc (v : AV UU) (b : List (List (AV UU))) (r : Bool) (h : strings_HasPrefix_dec v b = some r) : v = strings_HasPrefix_enc r := by
  unfold strings_HasPrefix_dec at h
  replace h := asB_inv h; obtain ⟨r0, rfl, h⟩ := h
  cases h
  rfl
theorem strings_HasPrefix_eq (k : Nat) (s0 : ByteArray) (prefix1 : ByteArray) : bodyK UX (strings_HasPrefix_cfg k) (strings_HasPrefix_G k) Tryd.f125 [.pv (.str s0), .pv (.str prefix1)] [] strings_HasPrefix_dec = strings_HasPrefix k s0 prefix1 := by kernel_rfl
theorem strings_HasPrefix_con (k : Nat) (s0 : ByteArray) (prefix1 : ByteArray) (r : Bool) (h : strings_HasPrefix k s0 prefix1 = some r) : Con (X := UX) Tryd.prog 125 [.pv (.str s0), .pv (.str prefix1)] [] (strings_HasPrefix_enc r) [] :=
  con_of_body xok tok Tryd.func125 strings_HasPrefix_body (strings_HasPrefix_gok k) rfl (strings_HasPrefix_cok k) (of_decide_eq_true (by kernel_rfl)) strings_HasPrefix_dec_enc ((strings_HasPrefix_eq k s0 prefix1).trans h)
noncomputable def strings_HasPrefix_an {ρ : Type} (k : Nat) : An UX ρ := fun args bx K =>
popA args fun v1 a2 =>
asS v1 fun s0 =>
popA a2 fun v3 a4 =>
asS v3 fun prefix1 =>
popN a4 <|
popN bx <|
(strings_HasPrefix k s0 prefix1).bind fun r => K (strings_HasPrefix_enc r) []
theorem strings_HasPrefix_ok {ρ : Type} (k : Nat) : AnsOK Tryd.prog 125 (strings_HasPrefix_an (ρ := ρ) k) := by
  intro args bx K r h
  unfold strings_HasPrefix_an at h
  replace h := popA_inv h; obtain ⟨v1, a2, rfl, h⟩ := h
  replace h := asS_inv h; obtain ⟨s0, rfl, h⟩ := h
  replace h := popA_inv h; obtain ⟨v3, a4, rfl, h⟩ := h
  replace h := asS_inv h; obtain ⟨prefix1, rfl, h⟩ := h
  replace h := popN_inv h; obtain ⟨rfl, h⟩ := h
  replace h := popN_inv h; obtain ⟨rfl, h⟩ := h
  replace h := bind_inv h
  obtain ⟨x, hx, h⟩ := h
  exact ⟨there_of Tryd.func125 (by kernel_rfl) strings_HasPrefix_body, _, _, h, strings_HasPrefix_con k s0 prefix1 x hx⟩

/-! cadastre/lex.skip$1 -/
noncomputable def lex_skip_1_code : Code := match Tryd.f124.body with | some c => c | none => .skip
theorem lex_skip_1_body : Tryd.f124.body = some lex_skip_1_code := by kernel_rfl
noncomputable def lex_skip_1_G {ρ : Type} (k : Nat) : Ans UX ρ := gnil
theorem lex_skip_1_gok {ρ : Type} (k : Nat) : GOK Tryd.prog (lex_skip_1_G (ρ := ρ) k) := gok_nil
noncomputable def lex_skip_1_cfg {ρ : Type} (k : Nat) : Cfg UX ρ where
  live i := (assoc [(0, [0]), (1, [0])] i).getD []
  boxes i := (assoc [(0, []), (1, [])] i).getD []
  tk i := (assoc [] i).getD []
  n := 17
  labelR l := (assoc [] l).getD 0
  loops := assoc []
  labels := assoc []
  joins := assoc []
  xl i e := match e with
    | .nxt => assoc [] i
    | .ret => assoc [] i
    | .exit j => (assoc [] i).bind fun l => assoc l j
    | .goto j => (assoc [] i).bind fun l => assoc l j
noncomputable def lex_skip_1_L : List Code := selI [] (loopsOf lex_skip_1_code)
noncomputable def lex_skip_1_J : List Code := selI [] (joinsOf lex_skip_1_code)
noncomputable def lex_skip_1_S : List Code := scopesOf lex_skip_1_code
theorem lex_skip_1_cok {ρ : Type} (k : Nat) : COK (lex_skip_1_cfg (ρ := ρ) k) (lex_skip_1_G k) lex_skip_1_code :=
  cok_of (tl := []) (tj := []) (tb := []) rfl rfl rfl (nil_all (by kernel_rfl)) (nil_all (by kernel_rfl)) (fun p hp => by cases hp)
noncomputable def lex_skip_1_enc (r : Bool) : AV UU := .pv (.bool r)
noncomputable def lex_skip_1_dec (v : AV UU) (_ : List (List (AV UU))) : Option Bool :=
asB v fun r0 =>
some r0
theorem lex_skip_1_dec_enc (v : AV UU) (b : List (List (AV UU))) (r : Bool) (h : lex_skip_1_dec v b = some r) : v = lex_skip_1_enc r := by
  unfold lex_skip_1_dec at h
  replace h := asB_inv h; obtain ⟨r0, rfl, h⟩ := h
  cases h
  rfl
theorem lex_skip_1_eq (k : Nat) (c0 : Int) : bodyK UX (lex_skip_1_cfg k) (lex_skip_1_G k) Tryd.f124 [.pv (.int .u8 c0)] [] lex_skip_1_dec = lex_skip_1 k c0 := by kernel_rfl
theorem lex_skip_1_con (k : Nat) (c0 : Int) (r : Bool) (h : lex_skip_1 k c0 = some r) : Con (X := UX) Tryd.prog 124 [.pv (.int .u8 c0)] [] (lex_skip_1_enc r) [] :=
  con_of_body xok tok Tryd.func124 lex_skip_1_body (lex_skip_1_gok k) rfl (lex_skip_1_cok k) (of_decide_eq_true (by kernel_rfl)) lex_skip_1_dec_enc ((lex_skip_1_eq k c0).trans h)
noncomputable def lex_skip_1_an {ρ : Type} (k : Nat) : An UX ρ := fun args bx K =>
popA args fun v1 a2 =>
asI .u8 v1 fun c0 =>
popN a2 <|
popN bx <|
(lex_skip_1 k c0).bind fun r => K (lex_skip_1_enc r) []
theorem lex_skip_1_ok {ρ : Type} (k : Nat) : AnsOK Tryd.prog 124 (lex_skip_1_an (ρ := ρ) k) := by
  intro args bx K r h
  unfold lex_skip_1_an at h
  replace h := popA_inv h; obtain ⟨v1, a2, rfl, h⟩ := h
  replace h := asI_inv h; obtain ⟨c0, rfl, h⟩ := h
  replace h := popN_inv h; obtain ⟨rfl, h⟩ := h
  replace h := popN_inv h; obtain ⟨rfl, h⟩ := h
  replace h := bind_inv h
  obtain ⟨x, hx, h⟩ := h
  exact ⟨there_of Tryd.func124 (by kernel_rfl) lex_skip_1_body, _, _, h, lex_skip_1_con k c0 x hx⟩

/-! cadastre/lex.span -/
noncomputable def lex_span_f124_code : Code := match Tryd.f123.body with | some c => c | none => .skip
theorem lex_span_f124_body : Tryd.f123.body = some lex_span_f124_code := by kernel_rfl
noncomputable def lex_span_f124_G {ρ : Type} (k : Nat) : Ans UX ρ := gk 124 (lex_skip_1_an k) (gnil)
theorem lex_span_f124_gok {ρ : Type} (k : Nat) : GOK Tryd.prog (lex_span_f124_G (ρ := ρ) k) := gok_cons (lex_skip_1_ok k) (gok_nil)
noncomputable def lex_span_f124_l1_s {ρ : Type} (k : Nat) : Run UX ρ := fun s K =>
popS 0 s.env fun v1 e2 =>
asS v1 fun s0 =>
popS 1 e2 fun v3 e4 =>
asI .i64 v3 fun at1 =>
popS 2 e4 fun v5 e6 =>
asF 124 v5 fun fa7 fb8 =>
popN fa7 <|
popN fb8 <|
popN e6 <|
popN s.hp <|
lex_span_f124_l1 k (fun at1 => K (.exit 0) ⟨[(1, .pv (.int .i64 at1))], []⟩) k s0 at1
noncomputable def lex_span_f124_cfg {ρ : Type} (k : Nat) : Cfg UX ρ where
  live i := (assoc [(0, [0, 1, 2]), (1, [0, 1, 2]), (2, [0, 1, 2]), (3, [1])] i).getD []
  boxes i := (assoc [(0, []), (1, []), (2, []), (3, [])] i).getD []
  tk i := (assoc [] i).getD []
  n := 21
  labelR l := (assoc [] l).getD 0
  loops := assoc [(1, lex_span_f124_l1_s k)]
  labels := assoc []
  joins := assoc []
  xl i e := match e with
    | .nxt => assoc [] i
    | .ret => assoc [] i
    | .exit j => (assoc [(1, [(0, ([1], []))])] i).bind fun l => assoc l j
    | .goto j => (assoc [] i).bind fun l => assoc l j
noncomputable def lex_span_f124_L : List Code := selI [1] (loopsOf lex_span_f124_code)
noncomputable def lex_span_f124_J : List Code := selI [] (joinsOf lex_span_f124_code)
noncomputable def lex_span_f124_S : List Code := scopesOf lex_span_f124_code
theorem lex_span_f124_l1_eq0 {ρ : Type} (k : Nat) (K : Ex → St UU → Option ρ) : ∀ (n : Nat) (v : ByteArray × Int), iterK UX (fun s => s.at (lex_span_f124_cfg (ρ := ρ) k).live (lex_span_f124_cfg (ρ := ρ) k).boxes (some 1)) (exec UX (lex_span_f124_cfg k) (lex_span_f124_G k) (lex_span_f124_L.getD 0 .skip)) n ⟨[(0, .pv (.str v.1)), (1, .pv (.int .i64 v.2)), (2, .fn 124 [] [])], []⟩ (nrmK UX (lex_span_f124_cfg k) 1 K) = lex_span_f124_l1 k (fun at1 => K (.exit 0) ⟨[(1, .pv (.int .i64 at1))], []⟩) n v.1 v.2 :=
  iter_rec (X := UX) (fun v => ⟨[(0, .pv (.str v.1)), (1, .pv (.int .i64 v.2)), (2, .fn 124 [] [])], []⟩) (fun rec v => lex_span_f124_l1_b k (fun at1 => K (.exit 0) ⟨[(1, .pv (.int .i64 at1))], []⟩) (fun s0 at1 => rec (s0, at1)) v.1 v.2) (fun n v => lex_span_f124_l1 k (fun at1 => K (.exit 0) ⟨[(1, .pv (.int .i64 at1))], []⟩) n v.1 v.2) (fun n v => by kernel_rfl) (fun _ => rfl) (fun _ _ => rfl)
theorem lex_span_f124_l1_ok0 {ρ : Type} (k : Nat) : IterOK UX (lex_span_f124_cfg (ρ := ρ) k) (lex_span_f124_G k) (lex_span_f124_L.getD 0 .skip) 1 (lex_span_f124_l1_s k) := by
  intro s K r h
  obtain ⟨env, hp⟩ := s
  unfold lex_span_f124_l1_s at h
  replace h := popS_inv h; obtain ⟨v1, e2, rfl, h⟩ := h
  replace h := asS_inv h; obtain ⟨s0, rfl, h⟩ := h
  replace h := popS_inv h; obtain ⟨v3, e4, rfl, h⟩ := h
  replace h := asI_inv h; obtain ⟨at1, rfl, h⟩ := h
  replace h := popS_inv h; obtain ⟨v5, e6, rfl, h⟩ := h
  replace h := asF_inv h; obtain ⟨fa7, fb8, rfl, h⟩ := h
  replace h := popN_inv h; obtain ⟨rfl, h⟩ := h
  replace h := popN_inv h; obtain ⟨rfl, h⟩ := h
  replace h := popN_inv h; obtain ⟨rfl, h⟩ := h
  replace h := popN_inv h; obtain ⟨rfl, h⟩ := h
  exact ⟨k, (lex_span_f124_l1_eq0 k K k (s0, at1)).trans h⟩
theorem lex_span_f124_cok {ρ : Type} (k : Nat) : COK (lex_span_f124_cfg (ρ := ρ) k) (lex_span_f124_G k) lex_span_f124_code :=
  cok_of (tl := [(1, lex_span_f124_l1_s k)]) (tj := []) (tb := []) rfl rfl rfl (all_nth 1 (by kernel_rfl) ⟨iter_case (by kernel_rfl) rfl (lex_span_f124_l1_ok0 k), trivial⟩) (nil_all (by kernel_rfl)) (fun p hp => by cases hp)
noncomputable def lex_span_f124_enc (r : Int) : AV UU := .pv (.int .i64 r)
noncomputable def lex_span_f124_dec (v : AV UU) (_ : List (List (AV UU))) : Option Int :=
asI .i64 v fun r0 =>
some r0
theorem lex_span_f124_dec_enc (v : AV UU) (b : List (List (AV UU))) (r : Int) (h : lex_span_f124_dec v b = some r) : v = lex_span_f124_enc r := by
  unfold lex_span_f124_dec at h
  replace h := asI_inv h; obtain ⟨r0, rfl, h⟩ := h
  cases h
  rfl
theorem lex_span_f124_eq (k : Nat) (s0 : ByteArray) (at1 : Int) : bodyK UX (lex_span_f124_cfg k) (lex_span_f124_G k) Tryd.f123 [.pv (.str s0), .pv (.int .i64 at1), .fn 124 [] []] [] lex_span_f124_dec = lex_span_f124 k s0 at1 := by kernel_rfl
theorem lex_span_f124_con (k : Nat) (s0 : ByteArray) (at1 : Int) (r : Int) (h : lex_span_f124 k s0 at1 = some r) : Con (X := UX) Tryd.prog 123 [.pv (.str s0), .pv (.int .i64 at1), .fn 124 [] []] [] (lex_span_f124_enc r) [] :=
  con_of_body xok tok Tryd.func123 lex_span_f124_body (lex_span_f124_gok k) rfl (lex_span_f124_cok k) (of_decide_eq_true (by kernel_rfl)) lex_span_f124_dec_enc ((lex_span_f124_eq k s0 at1).trans h)
noncomputable def lex_span_f124_an {ρ : Type} (k : Nat) : An UX ρ := fun args bx K =>
popA args fun v1 a2 =>
asS v1 fun s0 =>
popA a2 fun v3 a4 =>
asI .i64 v3 fun at1 =>
popA a4 fun v5 a6 =>
asF 124 v5 fun fa7 fb8 =>
popN fa7 <|
popN fb8 <|
popN a6 <|
popN bx <|
(lex_span_f124 k s0 at1).bind fun r => K (lex_span_f124_enc r) []
theorem lex_span_f124_ok {ρ : Type} (k : Nat) : AnsOK Tryd.prog 123 (lex_span_f124_an (ρ := ρ) k) := by
  intro args bx K r h
  unfold lex_span_f124_an at h
  replace h := popA_inv h; obtain ⟨v1, a2, rfl, h⟩ := h
  replace h := asS_inv h; obtain ⟨s0, rfl, h⟩ := h
  replace h := popA_inv h; obtain ⟨v3, a4, rfl, h⟩ := h
  replace h := asI_inv h; obtain ⟨at1, rfl, h⟩ := h
  replace h := popA_inv h; obtain ⟨v5, a6, rfl, h⟩ := h
  replace h := asF_inv h; obtain ⟨fa7, fb8, rfl, h⟩ := h
  replace h := popN_inv h; obtain ⟨rfl, h⟩ := h
  replace h := popN_inv h; obtain ⟨rfl, h⟩ := h
  replace h := popN_inv h; obtain ⟨rfl, h⟩ := h
  replace h := popN_inv h; obtain ⟨rfl, h⟩ := h
  replace h := bind_inv h
  obtain ⟨x, hx, h⟩ := h
  exact ⟨there_of Tryd.func123 (by kernel_rfl) lex_span_f124_body, _, _, h, lex_span_f124_con k s0 at1 x hx⟩

/-! cadastre/lex.skip$2 -/
noncomputable def lex_skip_2_code : Code := match Tryd.f126.body with | some c => c | none => .skip
theorem lex_skip_2_body : Tryd.f126.body = some lex_skip_2_code := by kernel_rfl
noncomputable def lex_skip_2_G {ρ : Type} (k : Nat) : Ans UX ρ := gnil
theorem lex_skip_2_gok {ρ : Type} (k : Nat) : GOK Tryd.prog (lex_skip_2_G (ρ := ρ) k) := gok_nil
noncomputable def lex_skip_2_cfg {ρ : Type} (k : Nat) : Cfg UX ρ where
  live i := (assoc [(0, [0]), (1, [0])] i).getD []
  boxes i := (assoc [(0, []), (1, [])] i).getD []
  tk i := (assoc [] i).getD []
  n := 5
  labelR l := (assoc [] l).getD 0
  loops := assoc []
  labels := assoc []
  joins := assoc []
  xl i e := match e with
    | .nxt => assoc [] i
    | .ret => assoc [] i
    | .exit j => (assoc [] i).bind fun l => assoc l j
    | .goto j => (assoc [] i).bind fun l => assoc l j
noncomputable def lex_skip_2_L : List Code := selI [] (loopsOf lex_skip_2_code)
noncomputable def lex_skip_2_J : List Code := selI [] (joinsOf lex_skip_2_code)
noncomputable def lex_skip_2_S : List Code := scopesOf lex_skip_2_code
theorem lex_skip_2_cok {ρ : Type} (k : Nat) : COK (lex_skip_2_cfg (ρ := ρ) k) (lex_skip_2_G k) lex_skip_2_code :=
  cok_of (tl := []) (tj := []) (tb := []) rfl rfl rfl (nil_all (by kernel_rfl)) (nil_all (by kernel_rfl)) (fun p hp => by cases hp)
noncomputable def lex_skip_2_enc (r : Bool) : AV UU := .pv (.bool r)
noncomputable def lex_skip_2_dec (v : AV UU) (_ : List (List (AV UU))) : Option Bool :=
asB v fun r0 =>
some r0
theorem lex_skip_2_dec_enc (v : AV UU) (b : List (List (AV UU))) (r : Bool) (h : lex_skip_2_dec v b = some r) : v = lex_skip_2_enc r := by
  unfold lex_skip_2_dec at h
  replace h := asB_inv h; obtain ⟨r0, rfl, h⟩ := h
  cases h
  rfl
theorem lex_skip_2_eq (k : Nat) (c0 : Int) : bodyK UX (lex_skip_2_cfg k) (lex_skip_2_G k) Tryd.f126 [.pv (.int .u8 c0)] [] lex_skip_2_dec = lex_skip_2 k c0 := by kernel_rfl
theorem lex_skip_2_con (k : Nat) (c0 : Int) (r : Bool) (h : lex_skip_2 k c0 = some r) : Con (X := UX) Tryd.prog 126 [.pv (.int .u8 c0)] [] (lex_skip_2_enc r) [] :=
  con_of_body xok tok Tryd.func126 lex_skip_2_body (lex_skip_2_gok k) rfl (lex_skip_2_cok k) (of_decide_eq_true (by kernel_rfl)) lex_skip_2_dec_enc ((lex_skip_2_eq k c0).trans h)
noncomputable def lex_skip_2_an {ρ : Type} (k : Nat) : An UX ρ := fun args bx K =>
popA args fun v1 a2 =>
asI .u8 v1 fun c0 =>
popN a2 <|
popN bx <|
(lex_skip_2 k c0).bind fun r => K (lex_skip_2_enc r) []
theorem lex_skip_2_ok {ρ : Type} (k : Nat) : AnsOK Tryd.prog 126 (lex_skip_2_an (ρ := ρ) k) := by
  intro args bx K r h
  unfold lex_skip_2_an at h
  replace h := popA_inv h; obtain ⟨v1, a2, rfl, h⟩ := h
  replace h := asI_inv h; obtain ⟨c0, rfl, h⟩ := h
  replace h := popN_inv h; obtain ⟨rfl, h⟩ := h
  replace h := popN_inv h; obtain ⟨rfl, h⟩ := h
  replace h := bind_inv h
  obtain ⟨x, hx, h⟩ := h
  exact ⟨there_of Tryd.func126 (by kernel_rfl) lex_skip_2_body, _, _, h, lex_skip_2_con k c0 x hx⟩

/-! cadastre/lex.span -/
noncomputable def lex_span_f126_code : Code := match Tryd.f123.body with | some c => c | none => .skip
theorem lex_span_f126_body : Tryd.f123.body = some lex_span_f126_code := by kernel_rfl
noncomputable def lex_span_f126_G {ρ : Type} (k : Nat) : Ans UX ρ := gk 126 (lex_skip_2_an k) (gnil)
theorem lex_span_f126_gok {ρ : Type} (k : Nat) : GOK Tryd.prog (lex_span_f126_G (ρ := ρ) k) := gok_cons (lex_skip_2_ok k) (gok_nil)
noncomputable def lex_span_f126_l1_s {ρ : Type} (k : Nat) : Run UX ρ := fun s K =>
popS 0 s.env fun v1 e2 =>
asS v1 fun s0 =>
popS 1 e2 fun v3 e4 =>
asI .i64 v3 fun at1 =>
popS 2 e4 fun v5 e6 =>
asF 126 v5 fun fa7 fb8 =>
popN fa7 <|
popN fb8 <|
popN e6 <|
popN s.hp <|
lex_span_f126_l1 k (fun at1 => K (.exit 0) ⟨[(1, .pv (.int .i64 at1))], []⟩) k s0 at1
noncomputable def lex_span_f126_cfg {ρ : Type} (k : Nat) : Cfg UX ρ where
  live i := (assoc [(0, [0, 1, 2]), (1, [0, 1, 2]), (2, [0, 1, 2]), (3, [1])] i).getD []
  boxes i := (assoc [(0, []), (1, []), (2, []), (3, [])] i).getD []
  tk i := (assoc [] i).getD []
  n := 21
  labelR l := (assoc [] l).getD 0
  loops := assoc [(1, lex_span_f126_l1_s k)]
  labels := assoc []
  joins := assoc []
  xl i e := match e with
    | .nxt => assoc [] i
    | .ret => assoc [] i
    | .exit j => (assoc [(1, [(0, ([1], []))])] i).bind fun l => assoc l j
    | .goto j => (assoc [] i).bind fun l => assoc l j
noncomputable def lex_span_f126_L : List Code := selI [1] (loopsOf lex_span_f126_code)
noncomputable def lex_span_f126_J : List Code := selI [] (joinsOf lex_span_f126_code)
noncomputable def lex_span_f126_S : List Code := scopesOf lex_span_f126_code
theorem lex_span_f126_l1_eq0 {ρ : Type} (k : Nat) (K : Ex → St UU → Option ρ) : ∀ (n : Nat) (v : ByteArray × Int), iterK UX (fun s => s.at (lex_span_f126_cfg (ρ := ρ) k).live (lex_span_f126_cfg (ρ := ρ) k).boxes (some 1)) (exec UX (lex_span_f126_cfg k) (lex_span_f126_G k) (lex_span_f126_L.getD 0 .skip)) n ⟨[(0, .pv (.str v.1)), (1, .pv (.int .i64 v.2)), (2, .fn 126 [] [])], []⟩ (nrmK UX (lex_span_f126_cfg k) 1 K) = lex_span_f126_l1 k (fun at1 => K (.exit 0) ⟨[(1, .pv (.int .i64 at1))], []⟩) n v.1 v.2 :=
  iter_rec (X := UX) (fun v => ⟨[(0, .pv (.str v.1)), (1, .pv (.int .i64 v.2)), (2, .fn 126 [] [])], []⟩) (fun rec v => lex_span_f126_l1_b k (fun at1 => K (.exit 0) ⟨[(1, .pv (.int .i64 at1))], []⟩) (fun s0 at1 => rec (s0, at1)) v.1 v.2) (fun n v => lex_span_f126_l1 k (fun at1 => K (.exit 0) ⟨[(1, .pv (.int .i64 at1))], []⟩) n v.1 v.2) (fun n v => by kernel_rfl) (fun _ => rfl) (fun _ _ => rfl)
theorem lex_span_f126_l1_ok0 {ρ : Type} (k : Nat) : IterOK UX (lex_span_f126_cfg (ρ := ρ) k) (lex_span_f126_G k) (lex_span_f126_L.getD 0 .skip) 1 (lex_span_f126_l1_s k) := by
  intro s K r h
  obtain ⟨env, hp⟩ := s
  unfold lex_span_f126_l1_s at h
  replace h := popS_inv h; obtain ⟨v1, e2, rfl, h⟩ := h
  replace h := asS_inv h; obtain ⟨s0, rfl, h⟩ := h
  replace h := popS_inv h; obtain ⟨v3, e4, rfl, h⟩ := h
  replace h := asI_inv h; obtain ⟨at1, rfl, h⟩ := h
  replace h := popS_inv h; obtain ⟨v5, e6, rfl, h⟩ := h
  replace h := asF_inv h; obtain ⟨fa7, fb8, rfl, h⟩ := h
  replace h := popN_inv h; obtain ⟨rfl, h⟩ := h
  replace h := popN_inv h; obtain ⟨rfl, h⟩ := h
  replace h := popN_inv h; obtain ⟨rfl, h⟩ := h
  replace h := popN_inv h; obtain ⟨rfl, h⟩ := h
  exact ⟨k, (lex_span_f126_l1_eq0 k K k (s0, at1)).trans h⟩
theorem lex_span_f126_cok {ρ : Type} (k : Nat) : COK (lex_span_f126_cfg (ρ := ρ) k) (lex_span_f126_G k) lex_span_f126_code :=
  cok_of (tl := [(1, lex_span_f126_l1_s k)]) (tj := []) (tb := []) rfl rfl rfl (all_nth 1 (by kernel_rfl) ⟨iter_case (by kernel_rfl) rfl (lex_span_f126_l1_ok0 k), trivial⟩) (nil_all (by kernel_rfl)) (fun p hp => by cases hp)
noncomputable def lex_span_f126_enc (r : Int) : AV UU := .pv (.int .i64 r)
noncomputable def lex_span_f126_dec (v : AV UU) (_ : List (List (AV UU))) : Option Int :=
asI .i64 v fun r0 =>
some r0
theorem lex_span_f126_dec_enc (v : AV UU) (b : List (List (AV UU))) (r : Int) (h : lex_span_f126_dec v b = some r) : v = lex_span_f126_enc r := by
  unfold lex_span_f126_dec at h
  replace h := asI_inv h; obtain ⟨r0, rfl, h⟩ := h
  cases h
  rfl
theorem lex_span_f126_eq (k : Nat) (s0 : ByteArray) (at1 : Int) : bodyK UX (lex_span_f126_cfg k) (lex_span_f126_G k) Tryd.f123 [.pv (.str s0), .pv (.int .i64 at1), .fn 126 [] []] [] lex_span_f126_dec = lex_span_f126 k s0 at1 := by kernel_rfl
theorem lex_span_f126_con (k : Nat) (s0 : ByteArray) (at1 : Int) (r : Int) (h : lex_span_f126 k s0 at1 = some r) : Con (X := UX) Tryd.prog 123 [.pv (.str s0), .pv (.int .i64 at1), .fn 126 [] []] [] (lex_span_f126_enc r) [] :=
  con_of_body xok tok Tryd.func123 lex_span_f126_body (lex_span_f126_gok k) rfl (lex_span_f126_cok k) (of_decide_eq_true (by kernel_rfl)) lex_span_f126_dec_enc ((lex_span_f126_eq k s0 at1).trans h)
noncomputable def lex_span_f126_an {ρ : Type} (k : Nat) : An UX ρ := fun args bx K =>
popA args fun v1 a2 =>
asS v1 fun s0 =>
popA a2 fun v3 a4 =>
asI .i64 v3 fun at1 =>
popA a4 fun v5 a6 =>
asF 126 v5 fun fa7 fb8 =>
popN fa7 <|
popN fb8 <|
popN a6 <|
popN bx <|
(lex_span_f126 k s0 at1).bind fun r => K (lex_span_f126_enc r) []
theorem lex_span_f126_ok {ρ : Type} (k : Nat) : AnsOK Tryd.prog 123 (lex_span_f126_an (ρ := ρ) k) := by
  intro args bx K r h
  unfold lex_span_f126_an at h
  replace h := popA_inv h; obtain ⟨v1, a2, rfl, h⟩ := h
  replace h := asS_inv h; obtain ⟨s0, rfl, h⟩ := h
  replace h := popA_inv h; obtain ⟨v3, a4, rfl, h⟩ := h
  replace h := asI_inv h; obtain ⟨at1, rfl, h⟩ := h
  replace h := popA_inv h; obtain ⟨v5, a6, rfl, h⟩ := h
  replace h := asF_inv h; obtain ⟨fa7, fb8, rfl, h⟩ := h
  replace h := popN_inv h; obtain ⟨rfl, h⟩ := h
  replace h := popN_inv h; obtain ⟨rfl, h⟩ := h
  replace h := popN_inv h; obtain ⟨rfl, h⟩ := h
  replace h := popN_inv h; obtain ⟨rfl, h⟩ := h
  replace h := bind_inv h
  obtain ⟨x, hx, h⟩ := h
  exact ⟨there_of Tryd.func123 (by kernel_rfl) lex_span_f126_body, _, _, h, lex_span_f126_con k s0 at1 x hx⟩

/-! cadastre/lex.skip -/
noncomputable def lex_skip_code : Code := match Tryd.f113.body with | some c => c | none => .skip
theorem lex_skip_body : Tryd.f113.body = some lex_skip_code := by kernel_rfl
noncomputable def lex_skip_G {ρ : Type} (k : Nat) : Ans UX ρ := gk 123 (gsel [0, 0, 126] (lex_span_f124_an k) (lex_span_f126_an k)) (gk 125 (strings_HasPrefix_an k) (gnil))
theorem lex_skip_gok {ρ : Type} (k : Nat) : GOK Tryd.prog (lex_skip_G (ρ := ρ) k) := gok_cons (gsel_ok (lex_span_f124_ok k) (lex_span_f126_ok k)) (gok_cons (strings_HasPrefix_ok k) (gok_nil))
noncomputable def lex_skip_j1_s {ρ : Type} (k : Nat) : Run UX ρ := fun s K =>
popS 0 s.env fun v1 e2 =>
asS v1 fun s0 =>
popS 1 e2 fun v3 e4 =>
asI .i64 v3 fun at1 =>
popN e4 <|
popN s.hp <|
lex_skip_j1 k (fun s0 at1 => K (.goto 0) ⟨[(0, .pv (.str s0)), (1, .pv (.int .i64 at1))], []⟩) (fun t4 => K .ret ⟨[(4, .pv (.int .i64 t4))], []⟩) s0 at1
noncomputable def lex_skip_g0_s {ρ : Type} (k : Nat) : Run UX ρ := fun s K =>
popS 0 s.env fun v1 e2 =>
asS v1 fun s0 =>
popS 1 e2 fun v3 e4 =>
asI .i64 v3 fun at1 =>
popN e4 <|
popN s.hp <|
lex_skip_g0 k (fun t4 => K .ret ⟨[(4, .pv (.int .i64 t4))], []⟩) k s0 at1
noncomputable def lex_skip_cfg {ρ : Type} (k : Nat) : Cfg UX ρ where
  live i := (assoc [(0, [0, 1]), (1, [0, 1]), (2, [0, 1]), (3, [0, 1]), (4, [1])] i).getD []
  boxes i := (assoc [(0, []), (1, []), (2, []), (3, []), (4, [])] i).getD []
  tk i := (assoc [] i).getD []
  n := 16
  labelR l := (assoc [(0, 1)] l).getD 0
  loops := assoc []
  labels := assoc [(0, lex_skip_g0_s k)]
  joins := assoc [(1, lex_skip_j1_s k)]
  xl i e := match e with
    | .nxt => assoc [] i
    | .ret => assoc [(1, ([4], [])), (1, ([4], []))] i
    | .exit j => (assoc [] i).bind fun l => assoc l j
    | .goto j => (assoc [(1, [(0, ([0, 1], []))])] i).bind fun l => assoc l j
noncomputable def lex_skip_L : List Code := selI [] (loopsOf lex_skip_code)
noncomputable def lex_skip_J : List Code := selI [1] (joinsOf lex_skip_code)
noncomputable def lex_skip_S : List Code := scopesOf lex_skip_code
theorem lex_skip_j1_eq0 {ρ : Type} (k : Nat) (K : Ex → St UU → Option ρ) (s0 : ByteArray) (at1 : Int) : exec UX (lex_skip_cfg k) (lex_skip_G k) (lex_skip_J.getD 0 .skip) ⟨[(0, .pv (.str s0)), (1, .pv (.int .i64 at1))], []⟩ (nrmK UX (lex_skip_cfg k) 1 K) = lex_skip_j1 k (fun s0 at1 => K (.goto 0) ⟨[(0, .pv (.str s0)), (1, .pv (.int .i64 at1))], []⟩) (fun t4 => K .ret ⟨[(4, .pv (.int .i64 t4))], []⟩) s0 at1 := by kernel_rfl
theorem lex_skip_j1_ok0 {ρ : Type} (k : Nat) : JoinOK UX (lex_skip_cfg (ρ := ρ) k) (lex_skip_G k) (lex_skip_J.getD 0 .skip) 1 (lex_skip_j1_s k) := by
  intro s K r h
  obtain ⟨env, hp⟩ := s
  unfold lex_skip_j1_s at h
  replace h := popS_inv h; obtain ⟨v1, e2, rfl, h⟩ := h
  replace h := asS_inv h; obtain ⟨s0, rfl, h⟩ := h
  replace h := popS_inv h; obtain ⟨v3, e4, rfl, h⟩ := h
  replace h := asI_inv h; obtain ⟨at1, rfl, h⟩ := h
  replace h := popN_inv h; obtain ⟨rfl, h⟩ := h
  replace h := popN_inv h; obtain ⟨rfl, h⟩ := h
  exact (lex_skip_j1_eq0 k K s0 at1).trans h
noncomputable def lex_skip_g0_f0 {ρ : Type} (k : Nat) : Run UX ρ := (suff UX (lex_skip_cfg k) (lex_skip_G k) (lex_skip_S.getD 0 .skip) 0).getD fun _ _ => none
theorem lex_skip_g0_eq0 {ρ : Type} (k : Nat) (K : Ex → St UU → Option ρ) : ∀ (n : Nat) (v : ByteArray × Int), scopeN UX (fun l s => s.at (lex_skip_cfg (ρ := ρ) k).live (lex_skip_cfg (ρ := ρ) k).boxes (some ((lex_skip_cfg (ρ := ρ) k).labelR l))) (suff UX (lex_skip_cfg k) (lex_skip_G k) (lex_skip_S.getD 0 .skip)) (fun l => ((lex_skip_cfg (ρ := ρ) k).labels l).isSome) n (lex_skip_g0_f0 k) ⟨[(0, .pv (.str v.1)), (1, .pv (.int .i64 v.2))], []⟩ (nrmK UX (lex_skip_cfg k) ((lex_skip_cfg (ρ := ρ) k).labelR 0) K) = lex_skip_g0 k (fun t4 => K .ret ⟨[(4, .pv (.int .i64 t4))], []⟩) n v.1 v.2 :=
  scope_rec (X := UX) (fun _ => lex_skip_g0_f0 k) (fun v => ⟨[(0, .pv (.str v.1)), (1, .pv (.int .i64 v.2))], []⟩) (fun rec v => lex_skip_g0_b k (fun t4 => K .ret ⟨[(4, .pv (.int .i64 t4))], []⟩) (fun s0 at1 => rec (s0, at1)) v.1 v.2) (fun n v => lex_skip_g0 k (fun t4 => K .ret ⟨[(4, .pv (.int .i64 t4))], []⟩) n v.1 v.2) (fun n v => by kernel_rfl) (fun _ => rfl) (fun _ _ => rfl)
theorem lex_skip_g0_ok0 {ρ : Type} (k : Nat) : LabOK UX (lex_skip_cfg (ρ := ρ) k) (lex_skip_G k) (lex_skip_S.getD 0 .skip) 0 (lex_skip_g0_s k) := by
  intro f hf s K r h
  have hf : lex_skip_g0_f0 k = f := by unfold lex_skip_g0_f0; rw [hf]; rfl
  subst hf
  obtain ⟨env, hp⟩ := s
  unfold lex_skip_g0_s at h
  replace h := popS_inv h; obtain ⟨v1, e2, rfl, h⟩ := h
  replace h := asS_inv h; obtain ⟨s0, rfl, h⟩ := h
  replace h := popS_inv h; obtain ⟨v3, e4, rfl, h⟩ := h
  replace h := asI_inv h; obtain ⟨at1, rfl, h⟩ := h
  replace h := popN_inv h; obtain ⟨rfl, h⟩ := h
  replace h := popN_inv h; obtain ⟨rfl, h⟩ := h
  exact ⟨k, (lex_skip_g0_eq0 k K k (s0, at1)).trans h⟩
theorem lex_skip_cok {ρ : Type} (k : Nat) : COK (lex_skip_cfg (ρ := ρ) k) (lex_skip_G k) lex_skip_code :=
  cok_of (tl := []) (tj := [(1, lex_skip_j1_s k)]) (tb := [(0, lex_skip_g0_s k)]) rfl rfl rfl (nil_all (by kernel_rfl)) (all_nth 1 (by kernel_rfl) ⟨join_case (by kernel_rfl) rfl (lex_skip_j1_ok0 k), trivial⟩) (fun p hp => by
    simp only [List.mem_cons, List.not_mem_nil, or_false] at hp
    subst hp
    · exact all_nth 1 (by kernel_rfl) ⟨lex_skip_g0_ok0 k, trivial⟩)
noncomputable def lex_skip_enc (r : Int) : AV UU := .pv (.int .i64 r)
noncomputable def lex_skip_dec (v : AV UU) (_ : List (List (AV UU))) : Option Int :=
asI .i64 v fun r0 =>
some r0
theorem lex_skip_dec_enc (v : AV UU) (b : List (List (AV UU))) (r : Int) (h : lex_skip_dec v b = some r) : v = lex_skip_enc r := by
  unfold lex_skip_dec at h
  replace h := asI_inv h; obtain ⟨r0, rfl, h⟩ := h
  cases h
  rfl
theorem lex_skip_eq (k : Nat) (s0 : ByteArray) (at1 : Int) : bodyK UX (lex_skip_cfg k) (lex_skip_G k) Tryd.f113 [.pv (.str s0), .pv (.int .i64 at1)] [] lex_skip_dec = lex_skip k s0 at1 := by kernel_rfl
theorem lex_skip_con (k : Nat) (s0 : ByteArray) (at1 : Int) (r : Int) (h : lex_skip k s0 at1 = some r) : Con (X := UX) Tryd.prog 113 [.pv (.str s0), .pv (.int .i64 at1)] [] (lex_skip_enc r) [] :=
  con_of_body xok tok Tryd.func113 lex_skip_body (lex_skip_gok k) rfl (lex_skip_cok k) (of_decide_eq_true (by kernel_rfl)) lex_skip_dec_enc ((lex_skip_eq k s0 at1).trans h)
noncomputable def lex_skip_an {ρ : Type} (k : Nat) : An UX ρ := fun args bx K =>
popA args fun v1 a2 =>
asS v1 fun s0 =>
popA a2 fun v3 a4 =>
asI .i64 v3 fun at1 =>
popN a4 <|
popN bx <|
(lex_skip k s0 at1).bind fun r => K (lex_skip_enc r) []
theorem lex_skip_ok {ρ : Type} (k : Nat) : AnsOK Tryd.prog 113 (lex_skip_an (ρ := ρ) k) := by
  intro args bx K r h
  unfold lex_skip_an at h
  replace h := popA_inv h; obtain ⟨v1, a2, rfl, h⟩ := h
  replace h := asS_inv h; obtain ⟨s0, rfl, h⟩ := h
  replace h := popA_inv h; obtain ⟨v3, a4, rfl, h⟩ := h
  replace h := asI_inv h; obtain ⟨at1, rfl, h⟩ := h
  replace h := popN_inv h; obtain ⟨rfl, h⟩ := h
  replace h := popN_inv h; obtain ⟨rfl, h⟩ := h
  replace h := bind_inv h
  obtain ⟨x, hx, h⟩ := h
  exact ⟨there_of Tryd.func113 (by kernel_rfl) lex_skip_body, _, _, h, lex_skip_con k s0 at1 x hx⟩
end Go.Proofs.YtnoeedkbadoogaaDoor.E
