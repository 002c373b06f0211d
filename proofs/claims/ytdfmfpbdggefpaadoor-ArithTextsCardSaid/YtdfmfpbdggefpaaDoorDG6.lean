/-
  What the program's functions answer: the printed functions' answers.
-/
import Derived.Test.YtdfmfpbdggefpaaDoorDG5
namespace Go.Proofs.YtdfmfpbdggefpaaDoor.D
open Go Go.AX
/-! cadastre/cadastrelaw4.ArithTexts -/
noncomputable def cadastrelaw4_ArithTexts_code : Code := match Tryd.f7.body with | some c => c | none => .skip
theorem cadastrelaw4_ArithTexts_body : Tryd.f7.body = some cadastrelaw4_ArithTexts_code := by kernel_rfl
noncomputable def cadastrelaw4_ArithTexts_G {ρ : Type} (k : Nat) : Ans UX ρ := gk 11 (cadastreref2_May_an k) (gk 22 (cadastreref4_Text_an k) (gk 23 (cadastreref4_Length_an k) (gk 24 (cadastreref4_Typeof_an k) (gk 25 (cadastreref4_Concat_an k) (gk 17 (arith_Text_an k) (gk 26 (cadastrelaw4_is_an k) (gk 20 (arith_Length_an k) (gk 27 (arith_Typeof_an k) (gk 18 (arith_Concat_an k) (gk 21 (cadastrelaw4_wakes_an k) (gnil)))))))))))
theorem cadastrelaw4_ArithTexts_gok {ρ : Type} (k : Nat) : GOK Tryd.prog (cadastrelaw4_ArithTexts_G (ρ := ρ) k) := gok_cons (cadastreref2_May_ok k) (gok_cons (cadastreref4_Text_ok k) (gok_cons (cadastreref4_Length_ok k) (gok_cons (cadastreref4_Typeof_ok k) (gok_cons (cadastreref4_Concat_ok k) (gok_cons (arith_Text_ok k) (gok_cons (cadastrelaw4_is_ok k) (gok_cons (arith_Length_ok k) (gok_cons (arith_Typeof_ok k) (gok_cons (arith_Concat_ok k) (gok_cons (cadastrelaw4_wakes_ok k) (gok_nil)))))))))))
noncomputable def cadastrelaw4_ArithTexts_j16_s {ρ : Type} (k : Nat) : Run UX ρ := fun s K =>
popS 0 s.env fun v1 e2 =>
as_l45 v1 fun l0 =>
popS 3 e2 fun v3 e4 =>
asI .i64 v3 fun i3 =>
popS 4 e4 fun v5 e6 =>
asP 4 0 v5 <|
popS 7 e6 fun v7 e8 =>
asP 7 0 v7 <|
popS 8 e8 fun v9 e10 =>
asP 8 0 v9 <|
popS 9 e10 fun v11 e12 =>
asP 9 0 v11 <|
popS 10 e12 fun v13 e14 =>
asP 10 0 v13 <|
popS 11 e14 fun v15 e16 =>
asI .i64 v15 fun a11 =>
popS 12 e16 fun v17 e18 =>
asI .i64 v17 fun b12 =>
popN e18 <|
popB 4 s.hp fun c19 e20 =>
popA c19 fun v21 c22 =>
asI .i64 v21 fun z23 =>
popA c22 fun v24 c25 =>
asI .i64 v24 fun z26 =>
popA c25 fun v27 c28 =>
asS v27 fun z29 =>
popA c28 fun v30 c31 =>
asI .i64 v30 fun z32 =>
popA c31 fun v33 c34 =>
asI .i64 v33 fun z35 =>
popA c34 fun v36 c37 =>
asS v36 fun z38 =>
popA c37 fun v39 c40 =>
asI .i64 v39 fun z41 =>
popN c40 <|
popB 7 e20 fun c42 e43 =>
popA c42 fun v44 c45 =>
asI .i64 v44 fun z46 =>
popA c45 fun v47 c48 =>
asI .i64 v47 fun z49 =>
popA c48 fun v50 c51 =>
asS v50 fun z52 =>
popN c51 <|
popB 8 e43 fun c53 e54 =>
popA c53 fun v55 c56 =>
asI .i64 v55 fun z57 =>
popA c56 fun v58 c59 =>
asI .i64 v58 fun z60 =>
popA c59 fun v61 c62 =>
asS v61 fun z63 =>
popN c62 <|
popB 9 e54 fun c64 e65 =>
popA c64 fun v66 c67 =>
asI .i64 v66 fun z68 =>
popA c67 fun v69 c70 =>
asI .i64 v69 fun z71 =>
popA c70 fun v72 c73 =>
asS v72 fun z74 =>
popN c73 <|
popB 10 e65 fun c75 e76 =>
popA c75 fun v77 c78 =>
asI .i64 v77 fun z79 =>
popA c78 fun v80 c81 =>
asI .i64 v80 fun z82 =>
popA c81 fun v83 c84 =>
asS v83 fun z85 =>
popN c84 <|
popN e76 <|
cadastrelaw4_ArithTexts_j16 k (fun t2 => K .ret ⟨[(2, .pv (.bool t2))], []⟩) (fun l0 i3 => K .nxt ⟨[(0, .pv (.typ (.l45 l0))), (3, .pv (.int .i64 i3))], []⟩) l0 i3 a11 b12 (⟨(⟨z23, z26, z29⟩ : S23), (⟨z32, z35, z38⟩ : S23), z41⟩ : S45) (⟨z46, z49, z52⟩ : S23) (⟨z57, z60, z63⟩ : S23) (⟨z68, z71, z74⟩ : S23) (⟨z79, z82, z85⟩ : S23)
noncomputable def cadastrelaw4_ArithTexts_j14_s {ρ : Type} (k : Nat) : Run UX ρ := fun s K =>
popS 0 s.env fun v1 e2 =>
as_l45 v1 fun l0 =>
popS 3 e2 fun v3 e4 =>
asI .i64 v3 fun i3 =>
popS 4 e4 fun v5 e6 =>
asP 4 0 v5 <|
popS 5 e6 fun v7 e8 =>
asB v7 fun one5 =>
popS 7 e8 fun v9 e10 =>
asP 7 0 v9 <|
popS 8 e10 fun v11 e12 =>
asP 8 0 v11 <|
popS 9 e12 fun v13 e14 =>
asP 9 0 v13 <|
popS 10 e14 fun v15 e16 =>
asP 10 0 v15 <|
popS 11 e16 fun v17 e18 =>
asI .i64 v17 fun a11 =>
popS 12 e18 fun v19 e20 =>
asI .i64 v19 fun b12 =>
popN e20 <|
popB 4 s.hp fun c21 e22 =>
popA c21 fun v23 c24 =>
asI .i64 v23 fun z25 =>
popA c24 fun v26 c27 =>
asI .i64 v26 fun z28 =>
popA c27 fun v29 c30 =>
asS v29 fun z31 =>
popA c30 fun v32 c33 =>
asI .i64 v32 fun z34 =>
popA c33 fun v35 c36 =>
asI .i64 v35 fun z37 =>
popA c36 fun v38 c39 =>
asS v38 fun z40 =>
popA c39 fun v41 c42 =>
asI .i64 v41 fun z43 =>
popN c42 <|
popB 7 e22 fun c44 e45 =>
popA c44 fun v46 c47 =>
asI .i64 v46 fun z48 =>
popA c47 fun v49 c50 =>
asI .i64 v49 fun z51 =>
popA c50 fun v52 c53 =>
asS v52 fun z54 =>
popN c53 <|
popB 8 e45 fun c55 e56 =>
popA c55 fun v57 c58 =>
asI .i64 v57 fun z59 =>
popA c58 fun v60 c61 =>
asI .i64 v60 fun z62 =>
popA c61 fun v63 c64 =>
asS v63 fun z65 =>
popN c64 <|
popB 9 e56 fun c66 e67 =>
popA c66 fun v68 c69 =>
asI .i64 v68 fun z70 =>
popA c69 fun v71 c72 =>
asI .i64 v71 fun z73 =>
popA c72 fun v74 c75 =>
asS v74 fun z76 =>
popN c75 <|
popB 10 e67 fun c77 e78 =>
popA c77 fun v79 c80 =>
asI .i64 v79 fun z81 =>
popA c80 fun v82 c83 =>
asI .i64 v82 fun z84 =>
popA c83 fun v85 c86 =>
asS v85 fun z87 =>
popN c86 <|
popN e78 <|
cadastrelaw4_ArithTexts_j14 k (fun t2 => K .ret ⟨[(2, .pv (.bool t2))], []⟩) (fun l0 i3 => K .nxt ⟨[(0, .pv (.typ (.l45 l0))), (3, .pv (.int .i64 i3))], []⟩) l0 i3 one5 a11 b12 (⟨(⟨z25, z28, z31⟩ : S23), (⟨z34, z37, z40⟩ : S23), z43⟩ : S45) (⟨z48, z51, z54⟩ : S23) (⟨z59, z62, z65⟩ : S23) (⟨z70, z73, z76⟩ : S23) (⟨z81, z84, z87⟩ : S23)
noncomputable def cadastrelaw4_ArithTexts_j4_s {ρ : Type} (k : Nat) : Run UX ρ := fun s K =>
popS 0 s.env fun v1 e2 =>
as_l45 v1 fun l0 =>
popS 3 e2 fun v3 e4 =>
asI .i64 v3 fun i3 =>
popN e4 <|
popN s.hp <|
cadastrelaw4_ArithTexts_j4 k (fun t2 => K .ret ⟨[(2, .pv (.bool t2))], []⟩) (fun l0 i3 => K .nxt ⟨[(0, .pv (.typ (.l45 l0))), (3, .pv (.int .i64 i3))], []⟩) l0 i3
noncomputable def cadastrelaw4_ArithTexts_l2_s {ρ : Type} (k : Nat) : Run UX ρ := fun s K =>
popS 0 s.env fun v1 e2 =>
as_l45 v1 fun l0 =>
popS 3 e2 fun v3 e4 =>
asI .i64 v3 fun i3 =>
popN e4 <|
popN s.hp <|
cadastrelaw4_ArithTexts_l2 k (fun t2 => K .ret ⟨[(2, .pv (.bool t2))], []⟩) (K (.exit 0) ⟨[], []⟩) k l0 i3
noncomputable def cadastrelaw4_ArithTexts_cfg {ρ : Type} (k : Nat) : Cfg UX ρ where
  live i := (assoc [(0, [0]), (1, [0]), (2, [0, 3]), (3, [0, 3]), (4, [0, 3]), (5, [0, 3, 4]), (6, [0, 3, 4, 5]), (7, [0, 3, 4, 5, 6]), (8, [0, 3, 4, 5, 7, 8, 9, 10]), (9, [0, 3, 4, 5, 7, 8, 9, 10, 11, 12]), (10, [0, 3, 4, 5, 7, 8, 9, 10, 12]), (11, [0, 3, 4, 5, 7, 8, 9, 10, 11, 12]), (12, [0, 3, 4, 5, 7, 8, 9, 10, 11, 12]), (13, [0, 3, 4, 5, 7, 8, 9, 10, 11, 12]), (14, [0, 3, 4, 5, 7, 8, 9, 10, 11, 12]), (15, [0, 3, 4, 7, 8, 9, 10, 11]), (16, [0, 3, 4, 7, 8, 9, 10, 11, 12]), (17, [0, 3, 4, 7, 8, 9, 10, 11, 12, 13, 14]), (18, []), (19, [0, 3, 4, 8, 9, 10, 11, 12, 13]), (20, [0, 3, 4, 8, 9, 10, 11, 12, 13, 14]), (21, []), (22, [0, 3, 4, 9, 10, 11, 12, 13]), (23, [0, 3, 4, 9, 10, 11, 12, 13, 14]), (24, []), (25, [0, 3, 4, 10, 12, 13]), (26, [0, 3, 10, 12, 13, 14]), (27, []), (28, [])] i).getD []
  boxes i := (assoc [(0, []), (1, []), (2, []), (3, []), (4, []), (5, [4]), (6, [4]), (7, [4, 6]), (8, [4, 7, 8, 9, 10]), (9, [4, 7, 8, 9, 10]), (10, [4, 7, 8, 9, 10]), (11, [4, 7, 8, 9, 10]), (12, [4, 7, 8, 9, 10]), (13, [4, 7, 8, 9, 10]), (14, [4, 7, 8, 9, 10]), (15, [4, 7, 8, 9, 10]), (16, [4, 7, 8, 9, 10]), (17, [4, 7, 8, 9, 10, 13]), (18, []), (19, [4, 8, 9, 10, 13]), (20, [4, 8, 9, 10, 13]), (21, []), (22, [4, 9, 10, 13]), (23, [4, 9, 10, 13]), (24, []), (25, [4, 10, 13]), (26, [10, 13]), (27, []), (28, [])] i).getD []
  tk i := (assoc [] i).getD []
  n := 112
  labelR l := (assoc [] l).getD 0
  loops := assoc [(2, cadastrelaw4_ArithTexts_l2_s k)]
  labels := assoc []
  joins := assoc [(16, cadastrelaw4_ArithTexts_j16_s k), (14, cadastrelaw4_ArithTexts_j14_s k), (4, cadastrelaw4_ArithTexts_j4_s k)]
  xl i e := match e with
    | .nxt => assoc [(16, ([0, 3], [])), (14, ([0, 3], [])), (4, ([0, 3], []))] i
    | .ret => assoc [(16, ([2], [])), (14, ([2], [])), (4, ([2], [])), (2, ([2], []))] i
    | .exit j => (assoc [(2, [(0, ([], []))])] i).bind fun l => assoc l j
    | .goto j => (assoc [] i).bind fun l => assoc l j
noncomputable def cadastrelaw4_ArithTexts_L : List Code := selI [2] (loopsOf cadastrelaw4_ArithTexts_code)
noncomputable def cadastrelaw4_ArithTexts_J : List Code := selI [16, 14, 4] (joinsOf cadastrelaw4_ArithTexts_code)
noncomputable def cadastrelaw4_ArithTexts_S : List Code := scopesOf cadastrelaw4_ArithTexts_code
theorem cadastrelaw4_ArithTexts_l2_eq0 {ρ : Type} (k : Nat) (K : Ex → St UU → Option ρ) : ∀ (n : Nat) (v : (List S45) × Int), iterK UX (fun s => s.at (cadastrelaw4_ArithTexts_cfg (ρ := ρ) k).live (cadastrelaw4_ArithTexts_cfg (ρ := ρ) k).boxes (some 2)) (exec UX (cadastrelaw4_ArithTexts_cfg k) (cadastrelaw4_ArithTexts_G k) (cadastrelaw4_ArithTexts_L.getD 0 .skip)) n ⟨[(0, .pv (.typ (.l45 v.1))), (3, .pv (.int .i64 v.2))], []⟩ (nrmK UX (cadastrelaw4_ArithTexts_cfg k) 2 K) = cadastrelaw4_ArithTexts_l2 k (fun t2 => K .ret ⟨[(2, .pv (.bool t2))], []⟩) (K (.exit 0) ⟨[], []⟩) n v.1 v.2 :=
  iter_rec (X := UX) (fun v => ⟨[(0, .pv (.typ (.l45 v.1))), (3, .pv (.int .i64 v.2))], []⟩) (fun rec v => cadastrelaw4_ArithTexts_l2_b k (fun t2 => K .ret ⟨[(2, .pv (.bool t2))], []⟩) (K (.exit 0) ⟨[], []⟩) (fun l0 i3 => rec (l0, i3)) v.1 v.2) (fun n v => cadastrelaw4_ArithTexts_l2 k (fun t2 => K .ret ⟨[(2, .pv (.bool t2))], []⟩) (K (.exit 0) ⟨[], []⟩) n v.1 v.2) (fun n v => by kernel_rfl) (fun _ => rfl) (fun _ _ => rfl)
theorem cadastrelaw4_ArithTexts_l2_ok0 {ρ : Type} (k : Nat) : IterOK UX (cadastrelaw4_ArithTexts_cfg (ρ := ρ) k) (cadastrelaw4_ArithTexts_G k) (cadastrelaw4_ArithTexts_L.getD 0 .skip) 2 (cadastrelaw4_ArithTexts_l2_s k) := by
  intro s K r h
  obtain ⟨env, hp⟩ := s
  unfold cadastrelaw4_ArithTexts_l2_s at h
  replace h := popS_inv h; obtain ⟨v1, e2, rfl, h⟩ := h
  replace h := as_l45_inv h; obtain ⟨l0, rfl, h⟩ := h
  replace h := popS_inv h; obtain ⟨v3, e4, rfl, h⟩ := h
  replace h := asI_inv h; obtain ⟨i3, rfl, h⟩ := h
  replace h := popN_inv h; obtain ⟨rfl, h⟩ := h
  replace h := popN_inv h; obtain ⟨rfl, h⟩ := h
  exact ⟨k, (cadastrelaw4_ArithTexts_l2_eq0 k K k (l0, i3)).trans h⟩
theorem cadastrelaw4_ArithTexts_j4_eq0 {ρ : Type} (k : Nat) (K : Ex → St UU → Option ρ) (l0 : List S45) (i3 : Int) : exec UX (cadastrelaw4_ArithTexts_cfg k) (cadastrelaw4_ArithTexts_G k) (cadastrelaw4_ArithTexts_J.getD 0 .skip) ⟨[(0, .pv (.typ (.l45 l0))), (3, .pv (.int .i64 i3))], []⟩ (nrmK UX (cadastrelaw4_ArithTexts_cfg k) 4 K) = cadastrelaw4_ArithTexts_j4 k (fun t2 => K .ret ⟨[(2, .pv (.bool t2))], []⟩) (fun l0 i3 => K .nxt ⟨[(0, .pv (.typ (.l45 l0))), (3, .pv (.int .i64 i3))], []⟩) l0 i3 := by kernel_rfl
theorem cadastrelaw4_ArithTexts_j4_ok0 {ρ : Type} (k : Nat) : JoinOK UX (cadastrelaw4_ArithTexts_cfg (ρ := ρ) k) (cadastrelaw4_ArithTexts_G k) (cadastrelaw4_ArithTexts_J.getD 0 .skip) 4 (cadastrelaw4_ArithTexts_j4_s k) := by
  intro s K r h
  obtain ⟨env, hp⟩ := s
  unfold cadastrelaw4_ArithTexts_j4_s at h
  replace h := popS_inv h; obtain ⟨v1, e2, rfl, h⟩ := h
  replace h := as_l45_inv h; obtain ⟨l0, rfl, h⟩ := h
  replace h := popS_inv h; obtain ⟨v3, e4, rfl, h⟩ := h
  replace h := asI_inv h; obtain ⟨i3, rfl, h⟩ := h
  replace h := popN_inv h; obtain ⟨rfl, h⟩ := h
  replace h := popN_inv h; obtain ⟨rfl, h⟩ := h
  exact (cadastrelaw4_ArithTexts_j4_eq0 k K l0 i3).trans h
theorem cadastrelaw4_ArithTexts_j14_eq1 {ρ : Type} (k : Nat) (K : Ex → St UU → Option ρ) (l0 : List S45) (i3 : Int) (one5 : Bool) (a11 : Int) (b12 : Int) (p4 : S45) (t7 : S23) (n8 : S23) (y9 : S23) (c10 : S23) : exec UX (cadastrelaw4_ArithTexts_cfg k) (cadastrelaw4_ArithTexts_G k) (cadastrelaw4_ArithTexts_J.getD 1 .skip) ⟨[(0, .pv (.typ (.l45 l0))), (3, .pv (.int .i64 i3)), (4, .ptr 4 0), (5, .pv (.bool one5)), (7, .ptr 7 0), (8, .ptr 8 0), (9, .ptr 9 0), (10, .ptr 10 0), (11, .pv (.int .i64 a11)), (12, .pv (.int .i64 b12))], [(4, [.pv (.int .i64 p4.f0.f0), .pv (.int .i64 p4.f0.f1), .pv (.str p4.f0.f2), .pv (.int .i64 p4.f1.f0), .pv (.int .i64 p4.f1.f1), .pv (.str p4.f1.f2), .pv (.int .i64 p4.f2)]), (7, [.pv (.int .i64 t7.f0), .pv (.int .i64 t7.f1), .pv (.str t7.f2)]), (8, [.pv (.int .i64 n8.f0), .pv (.int .i64 n8.f1), .pv (.str n8.f2)]), (9, [.pv (.int .i64 y9.f0), .pv (.int .i64 y9.f1), .pv (.str y9.f2)]), (10, [.pv (.int .i64 c10.f0), .pv (.int .i64 c10.f1), .pv (.str c10.f2)])]⟩ (nrmK UX (cadastrelaw4_ArithTexts_cfg k) 14 K) = cadastrelaw4_ArithTexts_j14 k (fun t2 => K .ret ⟨[(2, .pv (.bool t2))], []⟩) (fun l0 i3 => K .nxt ⟨[(0, .pv (.typ (.l45 l0))), (3, .pv (.int .i64 i3))], []⟩) l0 i3 one5 a11 b12 p4 t7 n8 y9 c10 := by kernel_rfl
theorem cadastrelaw4_ArithTexts_j14_ok1 {ρ : Type} (k : Nat) : JoinOK UX (cadastrelaw4_ArithTexts_cfg (ρ := ρ) k) (cadastrelaw4_ArithTexts_G k) (cadastrelaw4_ArithTexts_J.getD 1 .skip) 14 (cadastrelaw4_ArithTexts_j14_s k) := by
  intro s K r h
  obtain ⟨env, hp⟩ := s
  unfold cadastrelaw4_ArithTexts_j14_s at h
  replace h := popS_inv h; obtain ⟨v1, e2, rfl, h⟩ := h
  replace h := as_l45_inv h; obtain ⟨l0, rfl, h⟩ := h
  replace h := popS_inv h; obtain ⟨v3, e4, rfl, h⟩ := h
  replace h := asI_inv h; obtain ⟨i3, rfl, h⟩ := h
  replace h := popS_inv h; obtain ⟨v5, e6, rfl, h⟩ := h
  replace h := asP_inv h; obtain ⟨rfl, h⟩ := h
  replace h := popS_inv h; obtain ⟨v7, e8, rfl, h⟩ := h
  replace h := asB_inv h; obtain ⟨one5, rfl, h⟩ := h
  replace h := popS_inv h; obtain ⟨v9, e10, rfl, h⟩ := h
  replace h := asP_inv h; obtain ⟨rfl, h⟩ := h
  replace h := popS_inv h; obtain ⟨v11, e12, rfl, h⟩ := h
  replace h := asP_inv h; obtain ⟨rfl, h⟩ := h
  replace h := popS_inv h; obtain ⟨v13, e14, rfl, h⟩ := h
  replace h := asP_inv h; obtain ⟨rfl, h⟩ := h
  replace h := popS_inv h; obtain ⟨v15, e16, rfl, h⟩ := h
  replace h := asP_inv h; obtain ⟨rfl, h⟩ := h
  replace h := popS_inv h; obtain ⟨v17, e18, rfl, h⟩ := h
  replace h := asI_inv h; obtain ⟨a11, rfl, h⟩ := h
  replace h := popS_inv h; obtain ⟨v19, e20, rfl, h⟩ := h
  replace h := asI_inv h; obtain ⟨b12, rfl, h⟩ := h
  replace h := popN_inv h; obtain ⟨rfl, h⟩ := h
  replace h := popB_inv h; obtain ⟨c21, e22, rfl, h⟩ := h
  replace h := popA_inv h; obtain ⟨v23, c24, rfl, h⟩ := h
  replace h := asI_inv h; obtain ⟨z25, rfl, h⟩ := h
  replace h := popA_inv h; obtain ⟨v26, c27, rfl, h⟩ := h
  replace h := asI_inv h; obtain ⟨z28, rfl, h⟩ := h
  replace h := popA_inv h; obtain ⟨v29, c30, rfl, h⟩ := h
  replace h := asS_inv h; obtain ⟨z31, rfl, h⟩ := h
  replace h := popA_inv h; obtain ⟨v32, c33, rfl, h⟩ := h
  replace h := asI_inv h; obtain ⟨z34, rfl, h⟩ := h
  replace h := popA_inv h; obtain ⟨v35, c36, rfl, h⟩ := h
  replace h := asI_inv h; obtain ⟨z37, rfl, h⟩ := h
  replace h := popA_inv h; obtain ⟨v38, c39, rfl, h⟩ := h
  replace h := asS_inv h; obtain ⟨z40, rfl, h⟩ := h
  replace h := popA_inv h; obtain ⟨v41, c42, rfl, h⟩ := h
  replace h := asI_inv h; obtain ⟨z43, rfl, h⟩ := h
  replace h := popN_inv h; obtain ⟨rfl, h⟩ := h
  replace h := popB_inv h; obtain ⟨c44, e45, rfl, h⟩ := h
  replace h := popA_inv h; obtain ⟨v46, c47, rfl, h⟩ := h
  replace h := asI_inv h; obtain ⟨z48, rfl, h⟩ := h
  replace h := popA_inv h; obtain ⟨v49, c50, rfl, h⟩ := h
  replace h := asI_inv h; obtain ⟨z51, rfl, h⟩ := h
  replace h := popA_inv h; obtain ⟨v52, c53, rfl, h⟩ := h
  replace h := asS_inv h; obtain ⟨z54, rfl, h⟩ := h
  replace h := popN_inv h; obtain ⟨rfl, h⟩ := h
  replace h := popB_inv h; obtain ⟨c55, e56, rfl, h⟩ := h
  replace h := popA_inv h; obtain ⟨v57, c58, rfl, h⟩ := h
  replace h := asI_inv h; obtain ⟨z59, rfl, h⟩ := h
  replace h := popA_inv h; obtain ⟨v60, c61, rfl, h⟩ := h
  replace h := asI_inv h; obtain ⟨z62, rfl, h⟩ := h
  replace h := popA_inv h; obtain ⟨v63, c64, rfl, h⟩ := h
  replace h := asS_inv h; obtain ⟨z65, rfl, h⟩ := h
  replace h := popN_inv h; obtain ⟨rfl, h⟩ := h
  replace h := popB_inv h; obtain ⟨c66, e67, rfl, h⟩ := h
  replace h := popA_inv h; obtain ⟨v68, c69, rfl, h⟩ := h
  replace h := asI_inv h; obtain ⟨z70, rfl, h⟩ := h
  replace h := popA_inv h; obtain ⟨v71, c72, rfl, h⟩ := h
  replace h := asI_inv h; obtain ⟨z73, rfl, h⟩ := h
  replace h := popA_inv h; obtain ⟨v74, c75, rfl, h⟩ := h
  replace h := asS_inv h; obtain ⟨z76, rfl, h⟩ := h
  replace h := popN_inv h; obtain ⟨rfl, h⟩ := h
  replace h := popB_inv h; obtain ⟨c77, e78, rfl, h⟩ := h
  replace h := popA_inv h; obtain ⟨v79, c80, rfl, h⟩ := h
  replace h := asI_inv h; obtain ⟨z81, rfl, h⟩ := h
  replace h := popA_inv h; obtain ⟨v82, c83, rfl, h⟩ := h
  replace h := asI_inv h; obtain ⟨z84, rfl, h⟩ := h
  replace h := popA_inv h; obtain ⟨v85, c86, rfl, h⟩ := h
  replace h := asS_inv h; obtain ⟨z87, rfl, h⟩ := h
  replace h := popN_inv h; obtain ⟨rfl, h⟩ := h
  replace h := popN_inv h; obtain ⟨rfl, h⟩ := h
  exact (cadastrelaw4_ArithTexts_j14_eq1 k K l0 i3 one5 a11 b12 (⟨(⟨z25, z28, z31⟩ : S23), (⟨z34, z37, z40⟩ : S23), z43⟩ : S45) (⟨z48, z51, z54⟩ : S23) (⟨z59, z62, z65⟩ : S23) (⟨z70, z73, z76⟩ : S23) (⟨z81, z84, z87⟩ : S23)).trans h
theorem cadastrelaw4_ArithTexts_j16_eq2 {ρ : Type} (k : Nat) (K : Ex → St UU → Option ρ) (l0 : List S45) (i3 : Int) (a11 : Int) (b12 : Int) (p4 : S45) (t7 : S23) (n8 : S23) (y9 : S23) (c10 : S23) : exec UX (cadastrelaw4_ArithTexts_cfg k) (cadastrelaw4_ArithTexts_G k) (cadastrelaw4_ArithTexts_J.getD 2 .skip) ⟨[(0, .pv (.typ (.l45 l0))), (3, .pv (.int .i64 i3)), (4, .ptr 4 0), (7, .ptr 7 0), (8, .ptr 8 0), (9, .ptr 9 0), (10, .ptr 10 0), (11, .pv (.int .i64 a11)), (12, .pv (.int .i64 b12))], [(4, [.pv (.int .i64 p4.f0.f0), .pv (.int .i64 p4.f0.f1), .pv (.str p4.f0.f2), .pv (.int .i64 p4.f1.f0), .pv (.int .i64 p4.f1.f1), .pv (.str p4.f1.f2), .pv (.int .i64 p4.f2)]), (7, [.pv (.int .i64 t7.f0), .pv (.int .i64 t7.f1), .pv (.str t7.f2)]), (8, [.pv (.int .i64 n8.f0), .pv (.int .i64 n8.f1), .pv (.str n8.f2)]), (9, [.pv (.int .i64 y9.f0), .pv (.int .i64 y9.f1), .pv (.str y9.f2)]), (10, [.pv (.int .i64 c10.f0), .pv (.int .i64 c10.f1), .pv (.str c10.f2)])]⟩ (nrmK UX (cadastrelaw4_ArithTexts_cfg k) 16 K) = cadastrelaw4_ArithTexts_j16 k (fun t2 => K .ret ⟨[(2, .pv (.bool t2))], []⟩) (fun l0 i3 => K .nxt ⟨[(0, .pv (.typ (.l45 l0))), (3, .pv (.int .i64 i3))], []⟩) l0 i3 a11 b12 p4 t7 n8 y9 c10 := by kernel_rfl
theorem cadastrelaw4_ArithTexts_j16_ok2 {ρ : Type} (k : Nat) : JoinOK UX (cadastrelaw4_ArithTexts_cfg (ρ := ρ) k) (cadastrelaw4_ArithTexts_G k) (cadastrelaw4_ArithTexts_J.getD 2 .skip) 16 (cadastrelaw4_ArithTexts_j16_s k) := by
  intro s K r h
  obtain ⟨env, hp⟩ := s
  unfold cadastrelaw4_ArithTexts_j16_s at h
  replace h := popS_inv h; obtain ⟨v1, e2, rfl, h⟩ := h
  replace h := as_l45_inv h; obtain ⟨l0, rfl, h⟩ := h
  replace h := popS_inv h; obtain ⟨v3, e4, rfl, h⟩ := h
  replace h := asI_inv h; obtain ⟨i3, rfl, h⟩ := h
  replace h := popS_inv h; obtain ⟨v5, e6, rfl, h⟩ := h
  replace h := asP_inv h; obtain ⟨rfl, h⟩ := h
  replace h := popS_inv h; obtain ⟨v7, e8, rfl, h⟩ := h
  replace h := asP_inv h; obtain ⟨rfl, h⟩ := h
  replace h := popS_inv h; obtain ⟨v9, e10, rfl, h⟩ := h
  replace h := asP_inv h; obtain ⟨rfl, h⟩ := h
  replace h := popS_inv h; obtain ⟨v11, e12, rfl, h⟩ := h
  replace h := asP_inv h; obtain ⟨rfl, h⟩ := h
  replace h := popS_inv h; obtain ⟨v13, e14, rfl, h⟩ := h
  replace h := asP_inv h; obtain ⟨rfl, h⟩ := h
  replace h := popS_inv h; obtain ⟨v15, e16, rfl, h⟩ := h
  replace h := asI_inv h; obtain ⟨a11, rfl, h⟩ := h
  replace h := popS_inv h; obtain ⟨v17, e18, rfl, h⟩ := h
  replace h := asI_inv h; obtain ⟨b12, rfl, h⟩ := h
  replace h := popN_inv h; obtain ⟨rfl, h⟩ := h
  replace h := popB_inv h; obtain ⟨c19, e20, rfl, h⟩ := h
  replace h := popA_inv h; obtain ⟨v21, c22, rfl, h⟩ := h
  replace h := asI_inv h; obtain ⟨z23, rfl, h⟩ := h
  replace h := popA_inv h; obtain ⟨v24, c25, rfl, h⟩ := h
  replace h := asI_inv h; obtain ⟨z26, rfl, h⟩ := h
  replace h := popA_inv h; obtain ⟨v27, c28, rfl, h⟩ := h
  replace h := asS_inv h; obtain ⟨z29, rfl, h⟩ := h
  replace h := popA_inv h; obtain ⟨v30, c31, rfl, h⟩ := h
  replace h := asI_inv h; obtain ⟨z32, rfl, h⟩ := h
  replace h := popA_inv h; obtain ⟨v33, c34, rfl, h⟩ := h
  replace h := asI_inv h; obtain ⟨z35, rfl, h⟩ := h
  replace h := popA_inv h; obtain ⟨v36, c37, rfl, h⟩ := h
  replace h := asS_inv h; obtain ⟨z38, rfl, h⟩ := h
  replace h := popA_inv h; obtain ⟨v39, c40, rfl, h⟩ := h
  replace h := asI_inv h; obtain ⟨z41, rfl, h⟩ := h
  replace h := popN_inv h; obtain ⟨rfl, h⟩ := h
  replace h := popB_inv h; obtain ⟨c42, e43, rfl, h⟩ := h
  replace h := popA_inv h; obtain ⟨v44, c45, rfl, h⟩ := h
  replace h := asI_inv h; obtain ⟨z46, rfl, h⟩ := h
  replace h := popA_inv h; obtain ⟨v47, c48, rfl, h⟩ := h
  replace h := asI_inv h; obtain ⟨z49, rfl, h⟩ := h
  replace h := popA_inv h; obtain ⟨v50, c51, rfl, h⟩ := h
  replace h := asS_inv h; obtain ⟨z52, rfl, h⟩ := h
  replace h := popN_inv h; obtain ⟨rfl, h⟩ := h
  replace h := popB_inv h; obtain ⟨c53, e54, rfl, h⟩ := h
  replace h := popA_inv h; obtain ⟨v55, c56, rfl, h⟩ := h
  replace h := asI_inv h; obtain ⟨z57, rfl, h⟩ := h
  replace h := popA_inv h; obtain ⟨v58, c59, rfl, h⟩ := h
  replace h := asI_inv h; obtain ⟨z60, rfl, h⟩ := h
  replace h := popA_inv h; obtain ⟨v61, c62, rfl, h⟩ := h
  replace h := asS_inv h; obtain ⟨z63, rfl, h⟩ := h
  replace h := popN_inv h; obtain ⟨rfl, h⟩ := h
  replace h := popB_inv h; obtain ⟨c64, e65, rfl, h⟩ := h
  replace h := popA_inv h; obtain ⟨v66, c67, rfl, h⟩ := h
  replace h := asI_inv h; obtain ⟨z68, rfl, h⟩ := h
  replace h := popA_inv h; obtain ⟨v69, c70, rfl, h⟩ := h
  replace h := asI_inv h; obtain ⟨z71, rfl, h⟩ := h
  replace h := popA_inv h; obtain ⟨v72, c73, rfl, h⟩ := h
  replace h := asS_inv h; obtain ⟨z74, rfl, h⟩ := h
  replace h := popN_inv h; obtain ⟨rfl, h⟩ := h
  replace h := popB_inv h; obtain ⟨c75, e76, rfl, h⟩ := h
  replace h := popA_inv h; obtain ⟨v77, c78, rfl, h⟩ := h
  replace h := asI_inv h; obtain ⟨z79, rfl, h⟩ := h
  replace h := popA_inv h; obtain ⟨v80, c81, rfl, h⟩ := h
  replace h := asI_inv h; obtain ⟨z82, rfl, h⟩ := h
  replace h := popA_inv h; obtain ⟨v83, c84, rfl, h⟩ := h
  replace h := asS_inv h; obtain ⟨z85, rfl, h⟩ := h
  replace h := popN_inv h; obtain ⟨rfl, h⟩ := h
  replace h := popN_inv h; obtain ⟨rfl, h⟩ := h
  exact (cadastrelaw4_ArithTexts_j16_eq2 k K l0 i3 a11 b12 (⟨(⟨z23, z26, z29⟩ : S23), (⟨z32, z35, z38⟩ : S23), z41⟩ : S45) (⟨z46, z49, z52⟩ : S23) (⟨z57, z60, z63⟩ : S23) (⟨z68, z71, z74⟩ : S23) (⟨z79, z82, z85⟩ : S23)).trans h
theorem cadastrelaw4_ArithTexts_cok {ρ : Type} (k : Nat) : COK (cadastrelaw4_ArithTexts_cfg (ρ := ρ) k) (cadastrelaw4_ArithTexts_G k) cadastrelaw4_ArithTexts_code :=
  cok_of (tl := [(2, cadastrelaw4_ArithTexts_l2_s k)]) (tj := [(16, cadastrelaw4_ArithTexts_j16_s k), (14, cadastrelaw4_ArithTexts_j14_s k), (4, cadastrelaw4_ArithTexts_j4_s k)]) (tb := []) rfl rfl rfl (all_nth 1 (by kernel_rfl) ⟨iter_case (by kernel_rfl) rfl (cadastrelaw4_ArithTexts_l2_ok0 k), trivial⟩) (all_nth 3 (by kernel_rfl) ⟨join_case (by kernel_rfl) rfl (cadastrelaw4_ArithTexts_j16_ok2 k), join_case (by kernel_rfl) rfl (cadastrelaw4_ArithTexts_j14_ok1 k), join_case (by kernel_rfl) rfl (cadastrelaw4_ArithTexts_j4_ok0 k), trivial⟩) (fun p hp => by cases hp)
noncomputable def cadastrelaw4_ArithTexts_enc (r : Bool) : AV UU := .pv (.bool r)
noncomputable def cadastrelaw4_ArithTexts_dec (v : AV UU) (_ : List (List (AV UU))) : Option Bool :=
asB v fun r0 =>
some r0
theorem cadastrelaw4_ArithTexts_dec_enc (v : AV UU) (b : List (List (AV UU))) (r : Bool) (h : cadastrelaw4_ArithTexts_dec v b = some r) : v = cadastrelaw4_ArithTexts_enc r := by
  unfold cadastrelaw4_ArithTexts_dec at h
  replace h := asB_inv h; obtain ⟨r0, rfl, h⟩ := h
  cases h
  rfl
theorem cadastrelaw4_ArithTexts_eq (k : Nat) (l0 : List S45) : bodyK UX (cadastrelaw4_ArithTexts_cfg k) (cadastrelaw4_ArithTexts_G k) Tryd.f7 [.pv (.typ (.l45 l0))] [] cadastrelaw4_ArithTexts_dec = cadastrelaw4_ArithTexts k l0 := by kernel_rfl
theorem cadastrelaw4_ArithTexts_con (k : Nat) (l0 : List S45) (r : Bool) (h : cadastrelaw4_ArithTexts k l0 = some r) : Con (X := UX) Tryd.prog 7 [.pv (.typ (.l45 l0))] [] (cadastrelaw4_ArithTexts_enc r) [] :=
  con_of_body xok tok Tryd.func7 cadastrelaw4_ArithTexts_body (cadastrelaw4_ArithTexts_gok k) rfl (cadastrelaw4_ArithTexts_cok k) (of_decide_eq_true (by kernel_rfl)) cadastrelaw4_ArithTexts_dec_enc ((cadastrelaw4_ArithTexts_eq k l0).trans h)
noncomputable def cadastrelaw4_ArithTexts_an {ρ : Type} (k : Nat) : An UX ρ := fun args bx K =>
popA args fun v1 a2 =>
as_l45 v1 fun l0 =>
popN a2 <|
popN bx <|
(cadastrelaw4_ArithTexts k l0).bind fun r => K (cadastrelaw4_ArithTexts_enc r) []
theorem cadastrelaw4_ArithTexts_ok {ρ : Type} (k : Nat) : AnsOK Tryd.prog 7 (cadastrelaw4_ArithTexts_an (ρ := ρ) k) := by
  intro args bx K r h
  unfold cadastrelaw4_ArithTexts_an at h
  replace h := popA_inv h; obtain ⟨v1, a2, rfl, h⟩ := h
  replace h := as_l45_inv h; obtain ⟨l0, rfl, h⟩ := h
  replace h := popN_inv h; obtain ⟨rfl, h⟩ := h
  replace h := popN_inv h; obtain ⟨rfl, h⟩ := h
  replace h := bind_inv h
  obtain ⟨x, hx, h⟩ := h
  exact ⟨there_of Tryd.func7 (by kernel_rfl) cadastrelaw4_ArithTexts_body, _, _, h, cadastrelaw4_ArithTexts_con k l0 x hx⟩
end Go.Proofs.YtdfmfpbdggefpaaDoor.D
