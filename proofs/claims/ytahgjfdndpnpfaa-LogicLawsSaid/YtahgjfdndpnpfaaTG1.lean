/-
  What the program's functions answer: the printed functions' answers.
-/
import Derived.Test.YtahgjfdndpnpfaaTG0
namespace Go.Proofs.Ytahgjfdndpnpfaa.T
open Go Go.AX
/-! cadastre/cadastrelaw4.ArithLaws -/
noncomputable def cadastrelaw4_ArithLaws_code : Code := match Try.f3.body with | some c => c | none => .skip
theorem cadastrelaw4_ArithLaws_body : Try.f3.body = some cadastrelaw4_ArithLaws_code := by kernel_rfl
noncomputable def cadastrelaw4_ArithLaws_G {ρ : Type} (k : Nat) : Ans UX ρ := gk 8 (cadastreref2_May_an k) (gk 9 (arith_Do_an k) (gk 10 (cadastrelaw4_num_an k) (gk 11 (cadastrelaw4_wakes_an k) (gnil))))
theorem cadastrelaw4_ArithLaws_gok {ρ : Type} (k : Nat) : GOK Try.prog (cadastrelaw4_ArithLaws_G (ρ := ρ) k) := gok_cons (cadastreref2_May_ok k) (gok_cons (arith_Do_ok k) (gok_cons (cadastrelaw4_num_ok k) (gok_cons (cadastrelaw4_wakes_ok k) (gok_nil))))
noncomputable def cadastrelaw4_ArithLaws_l7_s {ρ : Type} (k : Nat) : Run UX ρ := fun s K =>
popS 0 s.env fun v1 e2 =>
as_l25 v1 fun l0 =>
popS 3 e2 fun v3 e4 =>
asI .i64 v3 fun i3 =>
popS 4 e4 fun v5 e6 =>
asP 4 0 v5 <|
popS 5 e6 fun v7 e8 =>
asI .i64 v7 fun q5 =>
popN e8 <|
popB 4 s.hp fun c9 e10 =>
popA c9 fun v11 c12 =>
asI .i64 v11 fun z13 =>
popA c12 fun v14 c15 =>
asI .i64 v14 fun z16 =>
popA c15 fun v17 c18 =>
asS v17 fun z19 =>
popA c18 fun v20 c21 =>
asI .i64 v20 fun z22 =>
popA c21 fun v23 c24 =>
asI .i64 v23 fun z25 =>
popA c24 fun v26 c27 =>
asS v26 fun z28 =>
popA c27 fun v29 c30 =>
asI .i64 v29 fun z31 =>
popN c30 <|
popN e10 <|
cadastrelaw4_ArithLaws_l7 k (fun t2 => K .ret ⟨[(2, .pv (.bool t2))], []⟩) (fun l0 i3 p4 => K (.exit 2) ⟨[(0, .pv (.typ (.l25 l0))), (3, .pv (.int .i64 i3)), (4, .ptr 4 0)], [(4, [.pv (.int .i64 p4.f0.f0), .pv (.int .i64 p4.f0.f1), .pv (.str p4.f0.f2), .pv (.int .i64 p4.f1.f0), .pv (.int .i64 p4.f1.f1), .pv (.str p4.f1.f2), .pv (.int .i64 p4.f2)])]⟩) k l0 i3 q5 (⟨(⟨z13, z16, z19⟩ : S23), (⟨z22, z25, z28⟩ : S23), z31⟩ : S25)
noncomputable def cadastrelaw4_ArithLaws_j25_s {ρ : Type} (k : Nat) : Run UX ρ := fun s K =>
popS 0 s.env fun v1 e2 =>
as_l25 v1 fun l0 =>
popS 3 e2 fun v3 e4 =>
asI .i64 v3 fun i3 =>
popS 4 e4 fun v5 e6 =>
asP 4 0 v5 <|
popS 15 e6 fun v7 e8 =>
asP 15 0 v7 <|
popS 17 e8 fun v9 e10 =>
asP 17 0 v9 <|
popN e10 <|
popB 4 s.hp fun c11 e12 =>
popA c11 fun v13 c14 =>
asI .i64 v13 fun z15 =>
popA c14 fun v16 c17 =>
asI .i64 v16 fun z18 =>
popA c17 fun v19 c20 =>
asS v19 fun z21 =>
popA c20 fun v22 c23 =>
asI .i64 v22 fun z24 =>
popA c23 fun v25 c26 =>
asI .i64 v25 fun z27 =>
popA c26 fun v28 c29 =>
asS v28 fun z30 =>
popA c29 fun v31 c32 =>
asI .i64 v31 fun z33 =>
popN c32 <|
popB 15 e12 fun c34 e35 =>
popA c34 fun v36 c37 =>
asI .i64 v36 fun z38 =>
popA c37 fun v39 c40 =>
asI .i64 v39 fun z41 =>
popA c40 fun v42 c43 =>
asS v42 fun z44 =>
popN c43 <|
popB 17 e35 fun c45 e46 =>
popA c45 fun v47 c48 =>
asI .i64 v47 fun z49 =>
popA c48 fun v50 c51 =>
asI .i64 v50 fun z52 =>
popA c51 fun v53 c54 =>
asS v53 fun z55 =>
popN c54 <|
popN e46 <|
cadastrelaw4_ArithLaws_j25 k (fun t2 => K .ret ⟨[(2, .pv (.bool t2))], []⟩) (fun l0 i3 => K .nxt ⟨[(0, .pv (.typ (.l25 l0))), (3, .pv (.int .i64 i3))], []⟩) l0 i3 (⟨(⟨z15, z18, z21⟩ : S23), (⟨z24, z27, z30⟩ : S23), z33⟩ : S25) (⟨z38, z41, z44⟩ : S23) (⟨z49, z52, z55⟩ : S23)
noncomputable def cadastrelaw4_ArithLaws_j24_s {ρ : Type} (k : Nat) : Run UX ρ := fun s K =>
popS 0 s.env fun v1 e2 =>
as_l25 v1 fun l0 =>
popS 3 e2 fun v3 e4 =>
asI .i64 v3 fun i3 =>
popS 4 e4 fun v5 e6 =>
asP 4 0 v5 <|
popS 15 e6 fun v7 e8 =>
asP 15 0 v7 <|
popS 16 e8 fun v9 e10 =>
asI .i64 v9 fun g16 =>
popS 17 e10 fun v11 e12 =>
asP 17 0 v11 <|
popN e12 <|
popB 4 s.hp fun c13 e14 =>
popA c13 fun v15 c16 =>
asI .i64 v15 fun z17 =>
popA c16 fun v18 c19 =>
asI .i64 v18 fun z20 =>
popA c19 fun v21 c22 =>
asS v21 fun z23 =>
popA c22 fun v24 c25 =>
asI .i64 v24 fun z26 =>
popA c25 fun v27 c28 =>
asI .i64 v27 fun z29 =>
popA c28 fun v30 c31 =>
asS v30 fun z32 =>
popA c31 fun v33 c34 =>
asI .i64 v33 fun z35 =>
popN c34 <|
popB 15 e14 fun c36 e37 =>
popA c36 fun v38 c39 =>
asI .i64 v38 fun z40 =>
popA c39 fun v41 c42 =>
asI .i64 v41 fun z43 =>
popA c42 fun v44 c45 =>
asS v44 fun z46 =>
popN c45 <|
popB 17 e37 fun c47 e48 =>
popA c47 fun v49 c50 =>
asI .i64 v49 fun z51 =>
popA c50 fun v52 c53 =>
asI .i64 v52 fun z54 =>
popA c53 fun v55 c56 =>
asS v55 fun z57 =>
popN c56 <|
popN e48 <|
cadastrelaw4_ArithLaws_j24 k (fun t2 => K .ret ⟨[(2, .pv (.bool t2))], []⟩) (fun l0 i3 => K .nxt ⟨[(0, .pv (.typ (.l25 l0))), (3, .pv (.int .i64 i3))], []⟩) l0 i3 g16 (⟨(⟨z17, z20, z23⟩ : S23), (⟨z26, z29, z32⟩ : S23), z35⟩ : S25) (⟨z40, z43, z46⟩ : S23) (⟨z51, z54, z57⟩ : S23)
noncomputable def cadastrelaw4_ArithLaws_j19_s {ρ : Type} (k : Nat) : Run UX ρ := fun s K =>
popS 0 s.env fun v1 e2 =>
as_l25 v1 fun l0 =>
popS 3 e2 fun v3 e4 =>
asI .i64 v3 fun i3 =>
popS 4 e4 fun v5 e6 =>
asP 4 0 v5 <|
popN e6 <|
popB 4 s.hp fun c7 e8 =>
popA c7 fun v9 c10 =>
asI .i64 v9 fun z11 =>
popA c10 fun v12 c13 =>
asI .i64 v12 fun z14 =>
popA c13 fun v15 c16 =>
asS v15 fun z17 =>
popA c16 fun v18 c19 =>
asI .i64 v18 fun z20 =>
popA c19 fun v21 c22 =>
asI .i64 v21 fun z23 =>
popA c22 fun v24 c25 =>
asS v24 fun z26 =>
popA c25 fun v27 c28 =>
asI .i64 v27 fun z29 =>
popN c28 <|
popN e8 <|
cadastrelaw4_ArithLaws_j19 k (fun t2 => K .ret ⟨[(2, .pv (.bool t2))], []⟩) (fun l0 i3 => K .nxt ⟨[(0, .pv (.typ (.l25 l0))), (3, .pv (.int .i64 i3))], []⟩) l0 i3 (⟨(⟨z11, z14, z17⟩ : S23), (⟨z20, z23, z26⟩ : S23), z29⟩ : S25)
noncomputable def cadastrelaw4_ArithLaws_j6_s {ρ : Type} (k : Nat) : Run UX ρ := fun s K =>
popS 0 s.env fun v1 e2 =>
as_l25 v1 fun l0 =>
popS 3 e2 fun v3 e4 =>
asI .i64 v3 fun i3 =>
popS 4 e4 fun v5 e6 =>
asP 4 0 v5 <|
popN e6 <|
popB 4 s.hp fun c7 e8 =>
popA c7 fun v9 c10 =>
asI .i64 v9 fun z11 =>
popA c10 fun v12 c13 =>
asI .i64 v12 fun z14 =>
popA c13 fun v15 c16 =>
asS v15 fun z17 =>
popA c16 fun v18 c19 =>
asI .i64 v18 fun z20 =>
popA c19 fun v21 c22 =>
asI .i64 v21 fun z23 =>
popA c22 fun v24 c25 =>
asS v24 fun z26 =>
popA c25 fun v27 c28 =>
asI .i64 v27 fun z29 =>
popN c28 <|
popN e8 <|
cadastrelaw4_ArithLaws_j6 k (fun t2 => K .ret ⟨[(2, .pv (.bool t2))], []⟩) (fun l0 i3 => K .nxt ⟨[(0, .pv (.typ (.l25 l0))), (3, .pv (.int .i64 i3))], []⟩) l0 i3 (⟨(⟨z11, z14, z17⟩ : S23), (⟨z20, z23, z26⟩ : S23), z29⟩ : S25)
noncomputable def cadastrelaw4_ArithLaws_j4_s {ρ : Type} (k : Nat) : Run UX ρ := fun s K =>
popS 0 s.env fun v1 e2 =>
as_l25 v1 fun l0 =>
popS 3 e2 fun v3 e4 =>
asI .i64 v3 fun i3 =>
popN e4 <|
popN s.hp <|
cadastrelaw4_ArithLaws_j4 k (fun l0 i3 => K .nxt ⟨[(0, .pv (.typ (.l25 l0))), (3, .pv (.int .i64 i3))], []⟩) (fun t2 => K .ret ⟨[(2, .pv (.bool t2))], []⟩) l0 i3
noncomputable def cadastrelaw4_ArithLaws_l2_s {ρ : Type} (k : Nat) : Run UX ρ := fun s K =>
popS 0 s.env fun v1 e2 =>
as_l25 v1 fun l0 =>
popS 3 e2 fun v3 e4 =>
asI .i64 v3 fun i3 =>
popN e4 <|
popN s.hp <|
cadastrelaw4_ArithLaws_l2 k (fun t2 => K .ret ⟨[(2, .pv (.bool t2))], []⟩) (K (.exit 0) ⟨[], []⟩) k l0 i3
noncomputable def cadastrelaw4_ArithLaws_cfg {ρ : Type} (k : Nat) : Cfg UX ρ where
  live i := (assoc [(0, [0]), (1, [0]), (2, [0, 3]), (3, [0, 3]), (4, [0, 3]), (5, [0, 3, 4]), (6, [0, 3, 4]), (7, [0, 3, 4, 5]), (8, [0, 3, 4, 5]), (9, [0, 3, 4, 5]), (10, [0, 3, 4, 5, 6]), (11, [0, 3, 4, 5, 6, 7, 8]), (12, [0, 3, 4, 5, 7, 8, 9, 10]), (13, []), (14, [0, 3, 4]), (15, [0, 3, 4, 11, 12]), (16, [0, 3, 4, 11]), (17, [0, 3, 4, 13, 14]), (18, []), (19, [0, 3, 4]), (20, [0, 3, 4, 15, 16]), (21, [0, 3, 4, 15, 16, 17, 18]), (22, [0, 3, 4, 15, 16, 17, 18, 19, 20]), (23, []), (24, [0, 3, 4, 15, 16, 17]), (25, [0, 3, 4, 15, 17]), (26, [0, 3, 4, 17, 21, 22]), (27, [0, 3, 4, 17, 22, 23, 24]), (28, []), (29, [])] i).getD []
  boxes i := (assoc [(0, []), (1, []), (2, []), (3, []), (4, []), (5, [4]), (6, [4]), (7, [4]), (8, [4]), (9, [4]), (10, [4]), (11, [4, 7]), (12, [4, 7, 9]), (13, []), (14, [4]), (15, [4, 11]), (16, [4, 11]), (17, [4, 13]), (18, []), (19, [4]), (20, [4, 15]), (21, [4, 15, 17]), (22, [4, 15, 17, 19]), (23, []), (24, [4, 15, 17]), (25, [4, 15, 17]), (26, [4, 17, 21]), (27, [4, 17, 23]), (28, []), (29, [])] i).getD []
  tk _ := []
  n := 255
  labelR l := (assoc [] l).getD 0
  loops := assoc [(7, cadastrelaw4_ArithLaws_l7_s k), (2, cadastrelaw4_ArithLaws_l2_s k)]
  labels := assoc []
  joins := assoc [(25, cadastrelaw4_ArithLaws_j25_s k), (24, cadastrelaw4_ArithLaws_j24_s k), (19, cadastrelaw4_ArithLaws_j19_s k), (6, cadastrelaw4_ArithLaws_j6_s k), (4, cadastrelaw4_ArithLaws_j4_s k)]
  xl i e := match e with
    | .nxt => assoc [(25, ([0, 3], [])), (24, ([0, 3], [])), (19, ([0, 3], [])), (6, ([0, 3], [])), (4, ([0, 3], []))] i
    | .ret => assoc [(7, ([2], [])), (25, ([2], [])), (24, ([2], [])), (19, ([2], [])), (6, ([2], [])), (4, ([2], [])), (2, ([2], []))] i
    | .exit j => (assoc [(7, [(2, ([0, 3, 4], [4]))]), (2, [(0, ([], []))])] i).bind fun l => assoc l j
    | .goto j => (assoc [] i).bind fun l => assoc l j
noncomputable def cadastrelaw4_ArithLaws_L : List Code := selI [7, 2] (loopsOf cadastrelaw4_ArithLaws_code)
noncomputable def cadastrelaw4_ArithLaws_J : List Code := selI [25, 24, 19, 6, 4] (joinsOf cadastrelaw4_ArithLaws_code)
noncomputable def cadastrelaw4_ArithLaws_S : List Code := scopesOf cadastrelaw4_ArithLaws_code
theorem cadastrelaw4_ArithLaws_l2_eq0 {ρ : Type} (k : Nat) (K : Ex → St UU → Option ρ) : ∀ (n : Nat) (v : (List S25) × Int), iterK UX (fun s => s.at (cadastrelaw4_ArithLaws_cfg (ρ := ρ) k).live (cadastrelaw4_ArithLaws_cfg (ρ := ρ) k).boxes (some 2)) (exec UX (cadastrelaw4_ArithLaws_cfg k) (cadastrelaw4_ArithLaws_G k) (cadastrelaw4_ArithLaws_L.getD 0 .skip)) n ⟨[(0, .pv (.typ (.l25 v.1))), (3, .pv (.int .i64 v.2))], []⟩ (nrmK UX (cadastrelaw4_ArithLaws_cfg k) 2 K) = cadastrelaw4_ArithLaws_l2 k (fun t2 => K .ret ⟨[(2, .pv (.bool t2))], []⟩) (K (.exit 0) ⟨[], []⟩) n v.1 v.2 :=
  iter_rec (X := UX) (fun v => ⟨[(0, .pv (.typ (.l25 v.1))), (3, .pv (.int .i64 v.2))], []⟩) (fun rec v => cadastrelaw4_ArithLaws_l2_b k (fun t2 => K .ret ⟨[(2, .pv (.bool t2))], []⟩) (K (.exit 0) ⟨[], []⟩) (fun l0 i3 => rec (l0, i3)) v.1 v.2) (fun n v => cadastrelaw4_ArithLaws_l2 k (fun t2 => K .ret ⟨[(2, .pv (.bool t2))], []⟩) (K (.exit 0) ⟨[], []⟩) n v.1 v.2) (fun n v => by kernel_rfl) (fun _ => rfl) (fun _ _ => rfl)
theorem cadastrelaw4_ArithLaws_l2_ok0 {ρ : Type} (k : Nat) : IterOK UX (cadastrelaw4_ArithLaws_cfg (ρ := ρ) k) (cadastrelaw4_ArithLaws_G k) (cadastrelaw4_ArithLaws_L.getD 0 .skip) 2 (cadastrelaw4_ArithLaws_l2_s k) := by
  intro s K r h
  obtain ⟨env, hp⟩ := s
  unfold cadastrelaw4_ArithLaws_l2_s at h
  replace h := popS_inv h; obtain ⟨v1, e2, rfl, h⟩ := h
  replace h := as_l25_inv h; obtain ⟨l0, rfl, h⟩ := h
  replace h := popS_inv h; obtain ⟨v3, e4, rfl, h⟩ := h
  replace h := asI_inv h; obtain ⟨i3, rfl, h⟩ := h
  replace h := popN_inv h; obtain ⟨rfl, h⟩ := h
  replace h := popN_inv h; obtain ⟨rfl, h⟩ := h
  exact ⟨k, (cadastrelaw4_ArithLaws_l2_eq0 k K k (l0, i3)).trans h⟩
theorem cadastrelaw4_ArithLaws_l7_eq1 {ρ : Type} (k : Nat) (K : Ex → St UU → Option ρ) : ∀ (n : Nat) (v : (List S25) × Int × Int × S25), iterK UX (fun s => s.at (cadastrelaw4_ArithLaws_cfg (ρ := ρ) k).live (cadastrelaw4_ArithLaws_cfg (ρ := ρ) k).boxes (some 7)) (exec UX (cadastrelaw4_ArithLaws_cfg k) (cadastrelaw4_ArithLaws_G k) (cadastrelaw4_ArithLaws_L.getD 1 .skip)) n ⟨[(0, .pv (.typ (.l25 v.1))), (3, .pv (.int .i64 v.2.1)), (4, .ptr 4 0), (5, .pv (.int .i64 v.2.2.1))], [(4, [.pv (.int .i64 v.2.2.2.f0.f0), .pv (.int .i64 v.2.2.2.f0.f1), .pv (.str v.2.2.2.f0.f2), .pv (.int .i64 v.2.2.2.f1.f0), .pv (.int .i64 v.2.2.2.f1.f1), .pv (.str v.2.2.2.f1.f2), .pv (.int .i64 v.2.2.2.f2)])]⟩ (nrmK UX (cadastrelaw4_ArithLaws_cfg k) 7 K) = cadastrelaw4_ArithLaws_l7 k (fun t2 => K .ret ⟨[(2, .pv (.bool t2))], []⟩) (fun l0 i3 p4 => K (.exit 2) ⟨[(0, .pv (.typ (.l25 l0))), (3, .pv (.int .i64 i3)), (4, .ptr 4 0)], [(4, [.pv (.int .i64 p4.f0.f0), .pv (.int .i64 p4.f0.f1), .pv (.str p4.f0.f2), .pv (.int .i64 p4.f1.f0), .pv (.int .i64 p4.f1.f1), .pv (.str p4.f1.f2), .pv (.int .i64 p4.f2)])]⟩) n v.1 v.2.1 v.2.2.1 v.2.2.2 :=
  iter_rec (X := UX) (fun v => ⟨[(0, .pv (.typ (.l25 v.1))), (3, .pv (.int .i64 v.2.1)), (4, .ptr 4 0), (5, .pv (.int .i64 v.2.2.1))], [(4, [.pv (.int .i64 v.2.2.2.f0.f0), .pv (.int .i64 v.2.2.2.f0.f1), .pv (.str v.2.2.2.f0.f2), .pv (.int .i64 v.2.2.2.f1.f0), .pv (.int .i64 v.2.2.2.f1.f1), .pv (.str v.2.2.2.f1.f2), .pv (.int .i64 v.2.2.2.f2)])]⟩) (fun rec v => cadastrelaw4_ArithLaws_l7_b k (fun t2 => K .ret ⟨[(2, .pv (.bool t2))], []⟩) (fun l0 i3 p4 => K (.exit 2) ⟨[(0, .pv (.typ (.l25 l0))), (3, .pv (.int .i64 i3)), (4, .ptr 4 0)], [(4, [.pv (.int .i64 p4.f0.f0), .pv (.int .i64 p4.f0.f1), .pv (.str p4.f0.f2), .pv (.int .i64 p4.f1.f0), .pv (.int .i64 p4.f1.f1), .pv (.str p4.f1.f2), .pv (.int .i64 p4.f2)])]⟩) (fun l0 i3 q5 p4 => rec (l0, i3, q5, p4)) v.1 v.2.1 v.2.2.1 v.2.2.2) (fun n v => cadastrelaw4_ArithLaws_l7 k (fun t2 => K .ret ⟨[(2, .pv (.bool t2))], []⟩) (fun l0 i3 p4 => K (.exit 2) ⟨[(0, .pv (.typ (.l25 l0))), (3, .pv (.int .i64 i3)), (4, .ptr 4 0)], [(4, [.pv (.int .i64 p4.f0.f0), .pv (.int .i64 p4.f0.f1), .pv (.str p4.f0.f2), .pv (.int .i64 p4.f1.f0), .pv (.int .i64 p4.f1.f1), .pv (.str p4.f1.f2), .pv (.int .i64 p4.f2)])]⟩) n v.1 v.2.1 v.2.2.1 v.2.2.2) (fun n v => by kernel_rfl) (fun _ => rfl) (fun _ _ => rfl)
theorem cadastrelaw4_ArithLaws_l7_ok1 {ρ : Type} (k : Nat) : IterOK UX (cadastrelaw4_ArithLaws_cfg (ρ := ρ) k) (cadastrelaw4_ArithLaws_G k) (cadastrelaw4_ArithLaws_L.getD 1 .skip) 7 (cadastrelaw4_ArithLaws_l7_s k) := by
  intro s K r h
  obtain ⟨env, hp⟩ := s
  unfold cadastrelaw4_ArithLaws_l7_s at h
  replace h := popS_inv h; obtain ⟨v1, e2, rfl, h⟩ := h
  replace h := as_l25_inv h; obtain ⟨l0, rfl, h⟩ := h
  replace h := popS_inv h; obtain ⟨v3, e4, rfl, h⟩ := h
  replace h := asI_inv h; obtain ⟨i3, rfl, h⟩ := h
  replace h := popS_inv h; obtain ⟨v5, e6, rfl, h⟩ := h
  replace h := asP_inv h; obtain ⟨rfl, h⟩ := h
  replace h := popS_inv h; obtain ⟨v7, e8, rfl, h⟩ := h
  replace h := asI_inv h; obtain ⟨q5, rfl, h⟩ := h
  replace h := popN_inv h; obtain ⟨rfl, h⟩ := h
  replace h := popB_inv h; obtain ⟨c9, e10, rfl, h⟩ := h
  replace h := popA_inv h; obtain ⟨v11, c12, rfl, h⟩ := h
  replace h := asI_inv h; obtain ⟨z13, rfl, h⟩ := h
  replace h := popA_inv h; obtain ⟨v14, c15, rfl, h⟩ := h
  replace h := asI_inv h; obtain ⟨z16, rfl, h⟩ := h
  replace h := popA_inv h; obtain ⟨v17, c18, rfl, h⟩ := h
  replace h := asS_inv h; obtain ⟨z19, rfl, h⟩ := h
  replace h := popA_inv h; obtain ⟨v20, c21, rfl, h⟩ := h
  replace h := asI_inv h; obtain ⟨z22, rfl, h⟩ := h
  replace h := popA_inv h; obtain ⟨v23, c24, rfl, h⟩ := h
  replace h := asI_inv h; obtain ⟨z25, rfl, h⟩ := h
  replace h := popA_inv h; obtain ⟨v26, c27, rfl, h⟩ := h
  replace h := asS_inv h; obtain ⟨z28, rfl, h⟩ := h
  replace h := popA_inv h; obtain ⟨v29, c30, rfl, h⟩ := h
  replace h := asI_inv h; obtain ⟨z31, rfl, h⟩ := h
  replace h := popN_inv h; obtain ⟨rfl, h⟩ := h
  replace h := popN_inv h; obtain ⟨rfl, h⟩ := h
  exact ⟨k, (cadastrelaw4_ArithLaws_l7_eq1 k K k (l0, i3, q5, (⟨(⟨z13, z16, z19⟩ : S23), (⟨z22, z25, z28⟩ : S23), z31⟩ : S25))).trans h⟩
theorem cadastrelaw4_ArithLaws_j4_eq0 {ρ : Type} (k : Nat) (K : Ex → St UU → Option ρ) (l0 : List S25) (i3 : Int) : exec UX (cadastrelaw4_ArithLaws_cfg k) (cadastrelaw4_ArithLaws_G k) (cadastrelaw4_ArithLaws_J.getD 0 .skip) ⟨[(0, .pv (.typ (.l25 l0))), (3, .pv (.int .i64 i3))], []⟩ (nrmK UX (cadastrelaw4_ArithLaws_cfg k) 4 K) = cadastrelaw4_ArithLaws_j4 k (fun l0 i3 => K .nxt ⟨[(0, .pv (.typ (.l25 l0))), (3, .pv (.int .i64 i3))], []⟩) (fun t2 => K .ret ⟨[(2, .pv (.bool t2))], []⟩) l0 i3 := by kernel_rfl
theorem cadastrelaw4_ArithLaws_j4_ok0 {ρ : Type} (k : Nat) : JoinOK UX (cadastrelaw4_ArithLaws_cfg (ρ := ρ) k) (cadastrelaw4_ArithLaws_G k) (cadastrelaw4_ArithLaws_J.getD 0 .skip) 4 (cadastrelaw4_ArithLaws_j4_s k) := by
  intro s K r h
  obtain ⟨env, hp⟩ := s
  unfold cadastrelaw4_ArithLaws_j4_s at h
  replace h := popS_inv h; obtain ⟨v1, e2, rfl, h⟩ := h
  replace h := as_l25_inv h; obtain ⟨l0, rfl, h⟩ := h
  replace h := popS_inv h; obtain ⟨v3, e4, rfl, h⟩ := h
  replace h := asI_inv h; obtain ⟨i3, rfl, h⟩ := h
  replace h := popN_inv h; obtain ⟨rfl, h⟩ := h
  replace h := popN_inv h; obtain ⟨rfl, h⟩ := h
  exact (cadastrelaw4_ArithLaws_j4_eq0 k K l0 i3).trans h
theorem cadastrelaw4_ArithLaws_j6_eq1 {ρ : Type} (k : Nat) (K : Ex → St UU → Option ρ) (l0 : List S25) (i3 : Int) (p4 : S25) : exec UX (cadastrelaw4_ArithLaws_cfg k) (cadastrelaw4_ArithLaws_G k) (cadastrelaw4_ArithLaws_J.getD 1 .skip) ⟨[(0, .pv (.typ (.l25 l0))), (3, .pv (.int .i64 i3)), (4, .ptr 4 0)], [(4, [.pv (.int .i64 p4.f0.f0), .pv (.int .i64 p4.f0.f1), .pv (.str p4.f0.f2), .pv (.int .i64 p4.f1.f0), .pv (.int .i64 p4.f1.f1), .pv (.str p4.f1.f2), .pv (.int .i64 p4.f2)])]⟩ (nrmK UX (cadastrelaw4_ArithLaws_cfg k) 6 K) = cadastrelaw4_ArithLaws_j6 k (fun t2 => K .ret ⟨[(2, .pv (.bool t2))], []⟩) (fun l0 i3 => K .nxt ⟨[(0, .pv (.typ (.l25 l0))), (3, .pv (.int .i64 i3))], []⟩) l0 i3 p4 := by kernel_rfl
theorem cadastrelaw4_ArithLaws_j6_ok1 {ρ : Type} (k : Nat) : JoinOK UX (cadastrelaw4_ArithLaws_cfg (ρ := ρ) k) (cadastrelaw4_ArithLaws_G k) (cadastrelaw4_ArithLaws_J.getD 1 .skip) 6 (cadastrelaw4_ArithLaws_j6_s k) := by
  intro s K r h
  obtain ⟨env, hp⟩ := s
  unfold cadastrelaw4_ArithLaws_j6_s at h
  replace h := popS_inv h; obtain ⟨v1, e2, rfl, h⟩ := h
  replace h := as_l25_inv h; obtain ⟨l0, rfl, h⟩ := h
  replace h := popS_inv h; obtain ⟨v3, e4, rfl, h⟩ := h
  replace h := asI_inv h; obtain ⟨i3, rfl, h⟩ := h
  replace h := popS_inv h; obtain ⟨v5, e6, rfl, h⟩ := h
  replace h := asP_inv h; obtain ⟨rfl, h⟩ := h
  replace h := popN_inv h; obtain ⟨rfl, h⟩ := h
  replace h := popB_inv h; obtain ⟨c7, e8, rfl, h⟩ := h
  replace h := popA_inv h; obtain ⟨v9, c10, rfl, h⟩ := h
  replace h := asI_inv h; obtain ⟨z11, rfl, h⟩ := h
  replace h := popA_inv h; obtain ⟨v12, c13, rfl, h⟩ := h
  replace h := asI_inv h; obtain ⟨z14, rfl, h⟩ := h
  replace h := popA_inv h; obtain ⟨v15, c16, rfl, h⟩ := h
  replace h := asS_inv h; obtain ⟨z17, rfl, h⟩ := h
  replace h := popA_inv h; obtain ⟨v18, c19, rfl, h⟩ := h
  replace h := asI_inv h; obtain ⟨z20, rfl, h⟩ := h
  replace h := popA_inv h; obtain ⟨v21, c22, rfl, h⟩ := h
  replace h := asI_inv h; obtain ⟨z23, rfl, h⟩ := h
  replace h := popA_inv h; obtain ⟨v24, c25, rfl, h⟩ := h
  replace h := asS_inv h; obtain ⟨z26, rfl, h⟩ := h
  replace h := popA_inv h; obtain ⟨v27, c28, rfl, h⟩ := h
  replace h := asI_inv h; obtain ⟨z29, rfl, h⟩ := h
  replace h := popN_inv h; obtain ⟨rfl, h⟩ := h
  replace h := popN_inv h; obtain ⟨rfl, h⟩ := h
  exact (cadastrelaw4_ArithLaws_j6_eq1 k K l0 i3 (⟨(⟨z11, z14, z17⟩ : S23), (⟨z20, z23, z26⟩ : S23), z29⟩ : S25)).trans h
theorem cadastrelaw4_ArithLaws_j19_eq2 {ρ : Type} (k : Nat) (K : Ex → St UU → Option ρ) (l0 : List S25) (i3 : Int) (p4 : S25) : exec UX (cadastrelaw4_ArithLaws_cfg k) (cadastrelaw4_ArithLaws_G k) (cadastrelaw4_ArithLaws_J.getD 2 .skip) ⟨[(0, .pv (.typ (.l25 l0))), (3, .pv (.int .i64 i3)), (4, .ptr 4 0)], [(4, [.pv (.int .i64 p4.f0.f0), .pv (.int .i64 p4.f0.f1), .pv (.str p4.f0.f2), .pv (.int .i64 p4.f1.f0), .pv (.int .i64 p4.f1.f1), .pv (.str p4.f1.f2), .pv (.int .i64 p4.f2)])]⟩ (nrmK UX (cadastrelaw4_ArithLaws_cfg k) 19 K) = cadastrelaw4_ArithLaws_j19 k (fun t2 => K .ret ⟨[(2, .pv (.bool t2))], []⟩) (fun l0 i3 => K .nxt ⟨[(0, .pv (.typ (.l25 l0))), (3, .pv (.int .i64 i3))], []⟩) l0 i3 p4 := by kernel_rfl
theorem cadastrelaw4_ArithLaws_j19_ok2 {ρ : Type} (k : Nat) : JoinOK UX (cadastrelaw4_ArithLaws_cfg (ρ := ρ) k) (cadastrelaw4_ArithLaws_G k) (cadastrelaw4_ArithLaws_J.getD 2 .skip) 19 (cadastrelaw4_ArithLaws_j19_s k) := by
  intro s K r h
  obtain ⟨env, hp⟩ := s
  unfold cadastrelaw4_ArithLaws_j19_s at h
  replace h := popS_inv h; obtain ⟨v1, e2, rfl, h⟩ := h
  replace h := as_l25_inv h; obtain ⟨l0, rfl, h⟩ := h
  replace h := popS_inv h; obtain ⟨v3, e4, rfl, h⟩ := h
  replace h := asI_inv h; obtain ⟨i3, rfl, h⟩ := h
  replace h := popS_inv h; obtain ⟨v5, e6, rfl, h⟩ := h
  replace h := asP_inv h; obtain ⟨rfl, h⟩ := h
  replace h := popN_inv h; obtain ⟨rfl, h⟩ := h
  replace h := popB_inv h; obtain ⟨c7, e8, rfl, h⟩ := h
  replace h := popA_inv h; obtain ⟨v9, c10, rfl, h⟩ := h
  replace h := asI_inv h; obtain ⟨z11, rfl, h⟩ := h
  replace h := popA_inv h; obtain ⟨v12, c13, rfl, h⟩ := h
  replace h := asI_inv h; obtain ⟨z14, rfl, h⟩ := h
  replace h := popA_inv h; obtain ⟨v15, c16, rfl, h⟩ := h
  replace h := asS_inv h; obtain ⟨z17, rfl, h⟩ := h
  replace h := popA_inv h; obtain ⟨v18, c19, rfl, h⟩ := h
  replace h := asI_inv h; obtain ⟨z20, rfl, h⟩ := h
  replace h := popA_inv h; obtain ⟨v21, c22, rfl, h⟩ := h
  replace h := asI_inv h; obtain ⟨z23, rfl, h⟩ := h
  replace h := popA_inv h; obtain ⟨v24, c25, rfl, h⟩ := h
  replace h := asS_inv h; obtain ⟨z26, rfl, h⟩ := h
  replace h := popA_inv h; obtain ⟨v27, c28, rfl, h⟩ := h
  replace h := asI_inv h; obtain ⟨z29, rfl, h⟩ := h
  replace h := popN_inv h; obtain ⟨rfl, h⟩ := h
  replace h := popN_inv h; obtain ⟨rfl, h⟩ := h
  exact (cadastrelaw4_ArithLaws_j19_eq2 k K l0 i3 (⟨(⟨z11, z14, z17⟩ : S23), (⟨z20, z23, z26⟩ : S23), z29⟩ : S25)).trans h
theorem cadastrelaw4_ArithLaws_j24_eq3 {ρ : Type} (k : Nat) (K : Ex → St UU → Option ρ) (l0 : List S25) (i3 : Int) (g16 : Int) (p4 : S25) (u15 : S23) (r17 : S23) : exec UX (cadastrelaw4_ArithLaws_cfg k) (cadastrelaw4_ArithLaws_G k) (cadastrelaw4_ArithLaws_J.getD 3 .skip) ⟨[(0, .pv (.typ (.l25 l0))), (3, .pv (.int .i64 i3)), (4, .ptr 4 0), (15, .ptr 15 0), (16, .pv (.int .i64 g16)), (17, .ptr 17 0)], [(4, [.pv (.int .i64 p4.f0.f0), .pv (.int .i64 p4.f0.f1), .pv (.str p4.f0.f2), .pv (.int .i64 p4.f1.f0), .pv (.int .i64 p4.f1.f1), .pv (.str p4.f1.f2), .pv (.int .i64 p4.f2)]), (15, [.pv (.int .i64 u15.f0), .pv (.int .i64 u15.f1), .pv (.str u15.f2)]), (17, [.pv (.int .i64 r17.f0), .pv (.int .i64 r17.f1), .pv (.str r17.f2)])]⟩ (nrmK UX (cadastrelaw4_ArithLaws_cfg k) 24 K) = cadastrelaw4_ArithLaws_j24 k (fun t2 => K .ret ⟨[(2, .pv (.bool t2))], []⟩) (fun l0 i3 => K .nxt ⟨[(0, .pv (.typ (.l25 l0))), (3, .pv (.int .i64 i3))], []⟩) l0 i3 g16 p4 u15 r17 := by kernel_rfl
theorem cadastrelaw4_ArithLaws_j24_ok3 {ρ : Type} (k : Nat) : JoinOK UX (cadastrelaw4_ArithLaws_cfg (ρ := ρ) k) (cadastrelaw4_ArithLaws_G k) (cadastrelaw4_ArithLaws_J.getD 3 .skip) 24 (cadastrelaw4_ArithLaws_j24_s k) := by
  intro s K r h
  obtain ⟨env, hp⟩ := s
  unfold cadastrelaw4_ArithLaws_j24_s at h
  replace h := popS_inv h; obtain ⟨v1, e2, rfl, h⟩ := h
  replace h := as_l25_inv h; obtain ⟨l0, rfl, h⟩ := h
  replace h := popS_inv h; obtain ⟨v3, e4, rfl, h⟩ := h
  replace h := asI_inv h; obtain ⟨i3, rfl, h⟩ := h
  replace h := popS_inv h; obtain ⟨v5, e6, rfl, h⟩ := h
  replace h := asP_inv h; obtain ⟨rfl, h⟩ := h
  replace h := popS_inv h; obtain ⟨v7, e8, rfl, h⟩ := h
  replace h := asP_inv h; obtain ⟨rfl, h⟩ := h
  replace h := popS_inv h; obtain ⟨v9, e10, rfl, h⟩ := h
  replace h := asI_inv h; obtain ⟨g16, rfl, h⟩ := h
  replace h := popS_inv h; obtain ⟨v11, e12, rfl, h⟩ := h
  replace h := asP_inv h; obtain ⟨rfl, h⟩ := h
  replace h := popN_inv h; obtain ⟨rfl, h⟩ := h
  replace h := popB_inv h; obtain ⟨c13, e14, rfl, h⟩ := h
  replace h := popA_inv h; obtain ⟨v15, c16, rfl, h⟩ := h
  replace h := asI_inv h; obtain ⟨z17, rfl, h⟩ := h
  replace h := popA_inv h; obtain ⟨v18, c19, rfl, h⟩ := h
  replace h := asI_inv h; obtain ⟨z20, rfl, h⟩ := h
  replace h := popA_inv h; obtain ⟨v21, c22, rfl, h⟩ := h
  replace h := asS_inv h; obtain ⟨z23, rfl, h⟩ := h
  replace h := popA_inv h; obtain ⟨v24, c25, rfl, h⟩ := h
  replace h := asI_inv h; obtain ⟨z26, rfl, h⟩ := h
  replace h := popA_inv h; obtain ⟨v27, c28, rfl, h⟩ := h
  replace h := asI_inv h; obtain ⟨z29, rfl, h⟩ := h
  replace h := popA_inv h; obtain ⟨v30, c31, rfl, h⟩ := h
  replace h := asS_inv h; obtain ⟨z32, rfl, h⟩ := h
  replace h := popA_inv h; obtain ⟨v33, c34, rfl, h⟩ := h
  replace h := asI_inv h; obtain ⟨z35, rfl, h⟩ := h
  replace h := popN_inv h; obtain ⟨rfl, h⟩ := h
  replace h := popB_inv h; obtain ⟨c36, e37, rfl, h⟩ := h
  replace h := popA_inv h; obtain ⟨v38, c39, rfl, h⟩ := h
  replace h := asI_inv h; obtain ⟨z40, rfl, h⟩ := h
  replace h := popA_inv h; obtain ⟨v41, c42, rfl, h⟩ := h
  replace h := asI_inv h; obtain ⟨z43, rfl, h⟩ := h
  replace h := popA_inv h; obtain ⟨v44, c45, rfl, h⟩ := h
  replace h := asS_inv h; obtain ⟨z46, rfl, h⟩ := h
  replace h := popN_inv h; obtain ⟨rfl, h⟩ := h
  replace h := popB_inv h; obtain ⟨c47, e48, rfl, h⟩ := h
  replace h := popA_inv h; obtain ⟨v49, c50, rfl, h⟩ := h
  replace h := asI_inv h; obtain ⟨z51, rfl, h⟩ := h
  replace h := popA_inv h; obtain ⟨v52, c53, rfl, h⟩ := h
  replace h := asI_inv h; obtain ⟨z54, rfl, h⟩ := h
  replace h := popA_inv h; obtain ⟨v55, c56, rfl, h⟩ := h
  replace h := asS_inv h; obtain ⟨z57, rfl, h⟩ := h
  replace h := popN_inv h; obtain ⟨rfl, h⟩ := h
  replace h := popN_inv h; obtain ⟨rfl, h⟩ := h
  exact (cadastrelaw4_ArithLaws_j24_eq3 k K l0 i3 g16 (⟨(⟨z17, z20, z23⟩ : S23), (⟨z26, z29, z32⟩ : S23), z35⟩ : S25) (⟨z40, z43, z46⟩ : S23) (⟨z51, z54, z57⟩ : S23)).trans h
theorem cadastrelaw4_ArithLaws_j25_eq4 {ρ : Type} (k : Nat) (K : Ex → St UU → Option ρ) (l0 : List S25) (i3 : Int) (p4 : S25) (u15 : S23) (r17 : S23) : exec UX (cadastrelaw4_ArithLaws_cfg k) (cadastrelaw4_ArithLaws_G k) (cadastrelaw4_ArithLaws_J.getD 4 .skip) ⟨[(0, .pv (.typ (.l25 l0))), (3, .pv (.int .i64 i3)), (4, .ptr 4 0), (15, .ptr 15 0), (17, .ptr 17 0)], [(4, [.pv (.int .i64 p4.f0.f0), .pv (.int .i64 p4.f0.f1), .pv (.str p4.f0.f2), .pv (.int .i64 p4.f1.f0), .pv (.int .i64 p4.f1.f1), .pv (.str p4.f1.f2), .pv (.int .i64 p4.f2)]), (15, [.pv (.int .i64 u15.f0), .pv (.int .i64 u15.f1), .pv (.str u15.f2)]), (17, [.pv (.int .i64 r17.f0), .pv (.int .i64 r17.f1), .pv (.str r17.f2)])]⟩ (nrmK UX (cadastrelaw4_ArithLaws_cfg k) 25 K) = cadastrelaw4_ArithLaws_j25 k (fun t2 => K .ret ⟨[(2, .pv (.bool t2))], []⟩) (fun l0 i3 => K .nxt ⟨[(0, .pv (.typ (.l25 l0))), (3, .pv (.int .i64 i3))], []⟩) l0 i3 p4 u15 r17 := by kernel_rfl
theorem cadastrelaw4_ArithLaws_j25_ok4 {ρ : Type} (k : Nat) : JoinOK UX (cadastrelaw4_ArithLaws_cfg (ρ := ρ) k) (cadastrelaw4_ArithLaws_G k) (cadastrelaw4_ArithLaws_J.getD 4 .skip) 25 (cadastrelaw4_ArithLaws_j25_s k) := by
  intro s K r h
  obtain ⟨env, hp⟩ := s
  unfold cadastrelaw4_ArithLaws_j25_s at h
  replace h := popS_inv h; obtain ⟨v1, e2, rfl, h⟩ := h
  replace h := as_l25_inv h; obtain ⟨l0, rfl, h⟩ := h
  replace h := popS_inv h; obtain ⟨v3, e4, rfl, h⟩ := h
  replace h := asI_inv h; obtain ⟨i3, rfl, h⟩ := h
  replace h := popS_inv h; obtain ⟨v5, e6, rfl, h⟩ := h
  replace h := asP_inv h; obtain ⟨rfl, h⟩ := h
  replace h := popS_inv h; obtain ⟨v7, e8, rfl, h⟩ := h
  replace h := asP_inv h; obtain ⟨rfl, h⟩ := h
  replace h := popS_inv h; obtain ⟨v9, e10, rfl, h⟩ := h
  replace h := asP_inv h; obtain ⟨rfl, h⟩ := h
  replace h := popN_inv h; obtain ⟨rfl, h⟩ := h
  replace h := popB_inv h; obtain ⟨c11, e12, rfl, h⟩ := h
  replace h := popA_inv h; obtain ⟨v13, c14, rfl, h⟩ := h
  replace h := asI_inv h; obtain ⟨z15, rfl, h⟩ := h
  replace h := popA_inv h; obtain ⟨v16, c17, rfl, h⟩ := h
  replace h := asI_inv h; obtain ⟨z18, rfl, h⟩ := h
  replace h := popA_inv h; obtain ⟨v19, c20, rfl, h⟩ := h
  replace h := asS_inv h; obtain ⟨z21, rfl, h⟩ := h
  replace h := popA_inv h; obtain ⟨v22, c23, rfl, h⟩ := h
  replace h := asI_inv h; obtain ⟨z24, rfl, h⟩ := h
  replace h := popA_inv h; obtain ⟨v25, c26, rfl, h⟩ := h
  replace h := asI_inv h; obtain ⟨z27, rfl, h⟩ := h
  replace h := popA_inv h; obtain ⟨v28, c29, rfl, h⟩ := h
  replace h := asS_inv h; obtain ⟨z30, rfl, h⟩ := h
  replace h := popA_inv h; obtain ⟨v31, c32, rfl, h⟩ := h
  replace h := asI_inv h; obtain ⟨z33, rfl, h⟩ := h
  replace h := popN_inv h; obtain ⟨rfl, h⟩ := h
  replace h := popB_inv h; obtain ⟨c34, e35, rfl, h⟩ := h
  replace h := popA_inv h; obtain ⟨v36, c37, rfl, h⟩ := h
  replace h := asI_inv h; obtain ⟨z38, rfl, h⟩ := h
  replace h := popA_inv h; obtain ⟨v39, c40, rfl, h⟩ := h
  replace h := asI_inv h; obtain ⟨z41, rfl, h⟩ := h
  replace h := popA_inv h; obtain ⟨v42, c43, rfl, h⟩ := h
  replace h := asS_inv h; obtain ⟨z44, rfl, h⟩ := h
  replace h := popN_inv h; obtain ⟨rfl, h⟩ := h
  replace h := popB_inv h; obtain ⟨c45, e46, rfl, h⟩ := h
  replace h := popA_inv h; obtain ⟨v47, c48, rfl, h⟩ := h
  replace h := asI_inv h; obtain ⟨z49, rfl, h⟩ := h
  replace h := popA_inv h; obtain ⟨v50, c51, rfl, h⟩ := h
  replace h := asI_inv h; obtain ⟨z52, rfl, h⟩ := h
  replace h := popA_inv h; obtain ⟨v53, c54, rfl, h⟩ := h
  replace h := asS_inv h; obtain ⟨z55, rfl, h⟩ := h
  replace h := popN_inv h; obtain ⟨rfl, h⟩ := h
  replace h := popN_inv h; obtain ⟨rfl, h⟩ := h
  exact (cadastrelaw4_ArithLaws_j25_eq4 k K l0 i3 (⟨(⟨z15, z18, z21⟩ : S23), (⟨z24, z27, z30⟩ : S23), z33⟩ : S25) (⟨z38, z41, z44⟩ : S23) (⟨z49, z52, z55⟩ : S23)).trans h
theorem cadastrelaw4_ArithLaws_cok {ρ : Type} (k : Nat) : COK (cadastrelaw4_ArithLaws_cfg (ρ := ρ) k) (cadastrelaw4_ArithLaws_G k) cadastrelaw4_ArithLaws_code :=
  cok_of (tl := [(7, cadastrelaw4_ArithLaws_l7_s k), (2, cadastrelaw4_ArithLaws_l2_s k)]) (tj := [(25, cadastrelaw4_ArithLaws_j25_s k), (24, cadastrelaw4_ArithLaws_j24_s k), (19, cadastrelaw4_ArithLaws_j19_s k), (6, cadastrelaw4_ArithLaws_j6_s k), (4, cadastrelaw4_ArithLaws_j4_s k)]) (tb := []) rfl rfl rfl (all_nth 2 (by kernel_rfl) ⟨iter_case (by kernel_rfl) rfl (cadastrelaw4_ArithLaws_l7_ok1 k), iter_case (by kernel_rfl) rfl (cadastrelaw4_ArithLaws_l2_ok0 k), trivial⟩) (all_nth 5 (by kernel_rfl) ⟨join_case (by kernel_rfl) rfl (cadastrelaw4_ArithLaws_j25_ok4 k), join_case (by kernel_rfl) rfl (cadastrelaw4_ArithLaws_j24_ok3 k), join_case (by kernel_rfl) rfl (cadastrelaw4_ArithLaws_j19_ok2 k), join_case (by kernel_rfl) rfl (cadastrelaw4_ArithLaws_j6_ok1 k), join_case (by kernel_rfl) rfl (cadastrelaw4_ArithLaws_j4_ok0 k), trivial⟩) (fun p hp => by cases hp)
noncomputable def cadastrelaw4_ArithLaws_enc (r : Bool) : AV UU := .pv (.bool r)
noncomputable def cadastrelaw4_ArithLaws_dec (v : AV UU) (_ : List (List (AV UU))) : Option Bool :=
asB v fun r0 =>
some r0
theorem cadastrelaw4_ArithLaws_dec_enc (v : AV UU) (b : List (List (AV UU))) (r : Bool) (h : cadastrelaw4_ArithLaws_dec v b = some r) : v = cadastrelaw4_ArithLaws_enc r := by
  unfold cadastrelaw4_ArithLaws_dec at h
  replace h := asB_inv h; obtain ⟨r0, rfl, h⟩ := h
  cases h
  rfl
theorem cadastrelaw4_ArithLaws_eq (k : Nat) (l0 : List S25) : bodyK UX (cadastrelaw4_ArithLaws_cfg k) (cadastrelaw4_ArithLaws_G k) Try.f3 [.pv (.typ (.l25 l0))] [] cadastrelaw4_ArithLaws_dec = cadastrelaw4_ArithLaws k l0 := by kernel_rfl
theorem cadastrelaw4_ArithLaws_con (k : Nat) (l0 : List S25) (r : Bool) (h : cadastrelaw4_ArithLaws k l0 = some r) : Con (X := UX) Try.prog 3 [.pv (.typ (.l25 l0))] [] (cadastrelaw4_ArithLaws_enc r) [] :=
  con_of_body xok tok Try.func3 cadastrelaw4_ArithLaws_body (cadastrelaw4_ArithLaws_gok k) rfl (cadastrelaw4_ArithLaws_cok k) (of_decide_eq_true (by kernel_rfl)) cadastrelaw4_ArithLaws_dec_enc ((cadastrelaw4_ArithLaws_eq k l0).trans h)
noncomputable def cadastrelaw4_ArithLaws_an {ρ : Type} (k : Nat) : An UX ρ := fun args bx K =>
popA args fun v1 a2 =>
as_l25 v1 fun l0 =>
popN a2 <|
popN bx <|
(cadastrelaw4_ArithLaws k l0).bind fun r => K (cadastrelaw4_ArithLaws_enc r) []
theorem cadastrelaw4_ArithLaws_ok {ρ : Type} (k : Nat) : AnsOK Try.prog 3 (cadastrelaw4_ArithLaws_an (ρ := ρ) k) := by
  intro args bx K r h
  unfold cadastrelaw4_ArithLaws_an at h
  replace h := popA_inv h; obtain ⟨v1, a2, rfl, h⟩ := h
  replace h := as_l25_inv h; obtain ⟨l0, rfl, h⟩ := h
  replace h := popN_inv h; obtain ⟨rfl, h⟩ := h
  replace h := popN_inv h; obtain ⟨rfl, h⟩ := h
  replace h := bind_inv h
  obtain ⟨x, hx, h⟩ := h
  exact ⟨there_of Try.func3 (by kernel_rfl) cadastrelaw4_ArithLaws_body, _, _, h, cadastrelaw4_ArithLaws_con k l0 x hx⟩

/-! cadastre/cadastrelaw0.Light -/
noncomputable def cadastrelaw0_Light_code : Code := match Try.f34.body with | some c => c | none => .skip
theorem cadastrelaw0_Light_body : Try.f34.body = some cadastrelaw0_Light_code := by kernel_rfl
noncomputable def cadastrelaw0_Light_G {ρ : Type} (k : Nat) : Ans UX ρ := gnil
theorem cadastrelaw0_Light_gok {ρ : Type} (k : Nat) : GOK Try.prog (cadastrelaw0_Light_G (ρ := ρ) k) := gok_nil
noncomputable def cadastrelaw0_Light_l5_s {ρ : Type} (k : Nat) : Run UX ρ := fun s K =>
popS 0 s.env fun v1 e2 =>
as_l23 v1 fun l0 =>
popS 1 e2 fun v3 e4 =>
asI .i64 v3 fun most1 =>
popS 5 e4 fun v5 e6 =>
asI .i64 v5 fun n5 =>
popS 6 e6 fun v7 e8 =>
asI .i64 v7 fun i6 =>
popN e8 <|
popN s.hp <|
cadastrelaw0_Light_l5 k (fun most1 n5 => K (.exit 0) ⟨[(1, .pv (.int .i64 most1)), (5, .pv (.int .i64 n5))], []⟩) k l0 most1 n5 i6
noncomputable def cadastrelaw0_Light_cfg {ρ : Type} (k : Nat) : Cfg UX ρ where
  live i := (assoc [(0, [0, 1]), (1, [0, 1]), (2, []), (3, [0, 1]), (4, [0, 1, 5]), (5, [0, 1, 5, 6]), (6, [0, 1, 5, 6]), (7, [0, 1, 5, 6]), (8, [1, 5])] i).getD []
  boxes i := (assoc [(0, []), (1, []), (2, []), (3, []), (4, []), (5, []), (6, []), (7, []), (8, [])] i).getD []
  tk _ := []
  n := 27
  labelR l := (assoc [] l).getD 0
  loops := assoc [(5, cadastrelaw0_Light_l5_s k)]
  labels := assoc []
  joins := assoc []
  xl i e := match e with
    | .nxt => assoc [] i
    | .ret => assoc [] i
    | .exit j => (assoc [(5, [(0, ([1, 5], []))])] i).bind fun l => assoc l j
    | .goto j => (assoc [] i).bind fun l => assoc l j
noncomputable def cadastrelaw0_Light_L : List Code := selI [5] (loopsOf cadastrelaw0_Light_code)
noncomputable def cadastrelaw0_Light_J : List Code := selI [] (joinsOf cadastrelaw0_Light_code)
noncomputable def cadastrelaw0_Light_S : List Code := scopesOf cadastrelaw0_Light_code
theorem cadastrelaw0_Light_l5_eq0 {ρ : Type} (k : Nat) (K : Ex → St UU → Option ρ) : ∀ (n : Nat) (v : (List S23) × Int × Int × Int), iterK UX (fun s => s.at (cadastrelaw0_Light_cfg (ρ := ρ) k).live (cadastrelaw0_Light_cfg (ρ := ρ) k).boxes (some 5)) (exec UX (cadastrelaw0_Light_cfg k) (cadastrelaw0_Light_G k) (cadastrelaw0_Light_L.getD 0 .skip)) n ⟨[(0, .pv (.typ (.l23 v.1))), (1, .pv (.int .i64 v.2.1)), (5, .pv (.int .i64 v.2.2.1)), (6, .pv (.int .i64 v.2.2.2))], []⟩ (nrmK UX (cadastrelaw0_Light_cfg k) 5 K) = cadastrelaw0_Light_l5 k (fun most1 n5 => K (.exit 0) ⟨[(1, .pv (.int .i64 most1)), (5, .pv (.int .i64 n5))], []⟩) n v.1 v.2.1 v.2.2.1 v.2.2.2 :=
  iter_rec (X := UX) (fun v => ⟨[(0, .pv (.typ (.l23 v.1))), (1, .pv (.int .i64 v.2.1)), (5, .pv (.int .i64 v.2.2.1)), (6, .pv (.int .i64 v.2.2.2))], []⟩) (fun rec v => cadastrelaw0_Light_l5_b k (fun most1 n5 => K (.exit 0) ⟨[(1, .pv (.int .i64 most1)), (5, .pv (.int .i64 n5))], []⟩) (fun l0 most1 n5 i6 => rec (l0, most1, n5, i6)) v.1 v.2.1 v.2.2.1 v.2.2.2) (fun n v => cadastrelaw0_Light_l5 k (fun most1 n5 => K (.exit 0) ⟨[(1, .pv (.int .i64 most1)), (5, .pv (.int .i64 n5))], []⟩) n v.1 v.2.1 v.2.2.1 v.2.2.2) (fun n v => by kernel_rfl) (fun _ => rfl) (fun _ _ => rfl)
theorem cadastrelaw0_Light_l5_ok0 {ρ : Type} (k : Nat) : IterOK UX (cadastrelaw0_Light_cfg (ρ := ρ) k) (cadastrelaw0_Light_G k) (cadastrelaw0_Light_L.getD 0 .skip) 5 (cadastrelaw0_Light_l5_s k) := by
  intro s K r h
  obtain ⟨env, hp⟩ := s
  unfold cadastrelaw0_Light_l5_s at h
  replace h := popS_inv h; obtain ⟨v1, e2, rfl, h⟩ := h
  replace h := as_l23_inv h; obtain ⟨l0, rfl, h⟩ := h
  replace h := popS_inv h; obtain ⟨v3, e4, rfl, h⟩ := h
  replace h := asI_inv h; obtain ⟨most1, rfl, h⟩ := h
  replace h := popS_inv h; obtain ⟨v5, e6, rfl, h⟩ := h
  replace h := asI_inv h; obtain ⟨n5, rfl, h⟩ := h
  replace h := popS_inv h; obtain ⟨v7, e8, rfl, h⟩ := h
  replace h := asI_inv h; obtain ⟨i6, rfl, h⟩ := h
  replace h := popN_inv h; obtain ⟨rfl, h⟩ := h
  replace h := popN_inv h; obtain ⟨rfl, h⟩ := h
  exact ⟨k, (cadastrelaw0_Light_l5_eq0 k K k (l0, most1, n5, i6)).trans h⟩
theorem cadastrelaw0_Light_cok {ρ : Type} (k : Nat) : COK (cadastrelaw0_Light_cfg (ρ := ρ) k) (cadastrelaw0_Light_G k) cadastrelaw0_Light_code :=
  cok_of (tl := [(5, cadastrelaw0_Light_l5_s k)]) (tj := []) (tb := []) rfl rfl rfl (all_nth 1 (by kernel_rfl) ⟨iter_case (by kernel_rfl) rfl (cadastrelaw0_Light_l5_ok0 k), trivial⟩) (nil_all (by kernel_rfl)) (fun p hp => by cases hp)
noncomputable def cadastrelaw0_Light_enc (r : Bool) : AV UU := .pv (.bool r)
noncomputable def cadastrelaw0_Light_dec (v : AV UU) (_ : List (List (AV UU))) : Option Bool :=
asB v fun r0 =>
some r0
theorem cadastrelaw0_Light_dec_enc (v : AV UU) (b : List (List (AV UU))) (r : Bool) (h : cadastrelaw0_Light_dec v b = some r) : v = cadastrelaw0_Light_enc r := by
  unfold cadastrelaw0_Light_dec at h
  replace h := asB_inv h; obtain ⟨r0, rfl, h⟩ := h
  cases h
  rfl
theorem cadastrelaw0_Light_eq (k : Nat) (l0 : List S23) (most1 : Int) : bodyK UX (cadastrelaw0_Light_cfg k) (cadastrelaw0_Light_G k) Try.f34 [.pv (.typ (.l23 l0)), .pv (.int .i64 most1)] [] cadastrelaw0_Light_dec = cadastrelaw0_Light k l0 most1 := by kernel_rfl
theorem cadastrelaw0_Light_con (k : Nat) (l0 : List S23) (most1 : Int) (r : Bool) (h : cadastrelaw0_Light k l0 most1 = some r) : Con (X := UX) Try.prog 34 [.pv (.typ (.l23 l0)), .pv (.int .i64 most1)] [] (cadastrelaw0_Light_enc r) [] :=
  con_of_body xok tok Try.func34 cadastrelaw0_Light_body (cadastrelaw0_Light_gok k) rfl (cadastrelaw0_Light_cok k) (of_decide_eq_true (by kernel_rfl)) cadastrelaw0_Light_dec_enc ((cadastrelaw0_Light_eq k l0 most1).trans h)
noncomputable def cadastrelaw0_Light_an {ρ : Type} (k : Nat) : An UX ρ := fun args bx K =>
popA args fun v1 a2 =>
as_l23 v1 fun l0 =>
popA a2 fun v3 a4 =>
asI .i64 v3 fun most1 =>
popN a4 <|
popN bx <|
(cadastrelaw0_Light k l0 most1).bind fun r => K (cadastrelaw0_Light_enc r) []
theorem cadastrelaw0_Light_ok {ρ : Type} (k : Nat) : AnsOK Try.prog 34 (cadastrelaw0_Light_an (ρ := ρ) k) := by
  intro args bx K r h
  unfold cadastrelaw0_Light_an at h
  replace h := popA_inv h; obtain ⟨v1, a2, rfl, h⟩ := h
  replace h := as_l23_inv h; obtain ⟨l0, rfl, h⟩ := h
  replace h := popA_inv h; obtain ⟨v3, a4, rfl, h⟩ := h
  replace h := asI_inv h; obtain ⟨most1, rfl, h⟩ := h
  replace h := popN_inv h; obtain ⟨rfl, h⟩ := h
  replace h := popN_inv h; obtain ⟨rfl, h⟩ := h
  replace h := bind_inv h
  obtain ⟨x, hx, h⟩ := h
  exact ⟨there_of Try.func34 (by kernel_rfl) cadastrelaw0_Light_body, _, _, h, cadastrelaw0_Light_con k l0 most1 x hx⟩

/-! cadastre/cadastrelaw0.LightLists -/
noncomputable def cadastrelaw0_LightLists_code : Code := match Try.f35.body with | some c => c | none => .skip
theorem cadastrelaw0_LightLists_body : Try.f35.body = some cadastrelaw0_LightLists_code := by kernel_rfl
noncomputable def cadastrelaw0_LightLists_G {ρ : Type} (k : Nat) : Ans UX ρ := gnil
theorem cadastrelaw0_LightLists_gok {ρ : Type} (k : Nat) : GOK Try.prog (cadastrelaw0_LightLists_G (ρ := ρ) k) := gok_nil
noncomputable def cadastrelaw0_LightLists_l10_s {ρ : Type} (k : Nat) : Run UX ρ := fun s K =>
popS 0 s.env fun v1 e2 =>
as_ll23 v1 fun l0 =>
popS 1 e2 fun v3 e4 =>
asI .i64 v3 fun most1 =>
popS 5 e4 fun v5 e6 =>
asI .i64 v5 fun n5 =>
popS 6 e6 fun v7 e8 =>
asI .i64 v7 fun i6 =>
popS 7 e8 fun v9 e10 =>
asI .i64 v9 fun k7 =>
popN e10 <|
popN s.hp <|
cadastrelaw0_LightLists_l10 k (fun l0 most1 n5 i6 => K (.exit 2) ⟨[(0, .pv (.typ (.ll23 l0))), (1, .pv (.int .i64 most1)), (5, .pv (.int .i64 n5)), (6, .pv (.int .i64 i6))], []⟩) k l0 most1 n5 i6 k7
noncomputable def cadastrelaw0_LightLists_l5_s {ρ : Type} (k : Nat) : Run UX ρ := fun s K =>
popS 0 s.env fun v1 e2 =>
as_ll23 v1 fun l0 =>
popS 1 e2 fun v3 e4 =>
asI .i64 v3 fun most1 =>
popS 5 e4 fun v5 e6 =>
asI .i64 v5 fun n5 =>
popS 6 e6 fun v7 e8 =>
asI .i64 v7 fun i6 =>
popN e8 <|
popN s.hp <|
cadastrelaw0_LightLists_l5 k (fun t4 => K .ret ⟨[(4, .pv (.bool t4))], []⟩) (fun most1 n5 => K (.exit 0) ⟨[(1, .pv (.int .i64 most1)), (5, .pv (.int .i64 n5))], []⟩) k l0 most1 n5 i6
noncomputable def cadastrelaw0_LightLists_cfg {ρ : Type} (k : Nat) : Cfg UX ρ where
  live i := (assoc [(0, [0, 1]), (1, [0, 1]), (2, []), (3, [0, 1]), (4, [0, 1, 5]), (5, [0, 1, 5, 6]), (6, [0, 1, 5, 6]), (7, [0, 1, 5, 6]), (8, []), (9, [0, 1, 5, 6]), (10, [0, 1, 5, 6, 7]), (11, [0, 1, 5, 6, 7]), (12, [0, 1, 5, 6, 7]), (13, [1, 5])] i).getD []
  boxes i := (assoc [(0, []), (1, []), (2, []), (3, []), (4, []), (5, []), (6, []), (7, []), (8, []), (9, []), (10, []), (11, []), (12, []), (13, [])] i).getD []
  tk _ := []
  n := 47
  labelR l := (assoc [] l).getD 0
  loops := assoc [(10, cadastrelaw0_LightLists_l10_s k), (5, cadastrelaw0_LightLists_l5_s k)]
  labels := assoc []
  joins := assoc []
  xl i e := match e with
    | .nxt => assoc [] i
    | .ret => assoc [(5, ([4], []))] i
    | .exit j => (assoc [(10, [(2, ([0, 1, 5, 6], []))]), (5, [(0, ([1, 5], []))])] i).bind fun l => assoc l j
    | .goto j => (assoc [] i).bind fun l => assoc l j
noncomputable def cadastrelaw0_LightLists_L : List Code := selI [10, 5] (loopsOf cadastrelaw0_LightLists_code)
noncomputable def cadastrelaw0_LightLists_J : List Code := selI [] (joinsOf cadastrelaw0_LightLists_code)
noncomputable def cadastrelaw0_LightLists_S : List Code := scopesOf cadastrelaw0_LightLists_code
theorem cadastrelaw0_LightLists_l5_eq0 {ρ : Type} (k : Nat) (K : Ex → St UU → Option ρ) : ∀ (n : Nat) (v : (List (List S23)) × Int × Int × Int), iterK UX (fun s => s.at (cadastrelaw0_LightLists_cfg (ρ := ρ) k).live (cadastrelaw0_LightLists_cfg (ρ := ρ) k).boxes (some 5)) (exec UX (cadastrelaw0_LightLists_cfg k) (cadastrelaw0_LightLists_G k) (cadastrelaw0_LightLists_L.getD 0 .skip)) n ⟨[(0, .pv (.typ (.ll23 v.1))), (1, .pv (.int .i64 v.2.1)), (5, .pv (.int .i64 v.2.2.1)), (6, .pv (.int .i64 v.2.2.2))], []⟩ (nrmK UX (cadastrelaw0_LightLists_cfg k) 5 K) = cadastrelaw0_LightLists_l5 k (fun t4 => K .ret ⟨[(4, .pv (.bool t4))], []⟩) (fun most1 n5 => K (.exit 0) ⟨[(1, .pv (.int .i64 most1)), (5, .pv (.int .i64 n5))], []⟩) n v.1 v.2.1 v.2.2.1 v.2.2.2 :=
  iter_rec (X := UX) (fun v => ⟨[(0, .pv (.typ (.ll23 v.1))), (1, .pv (.int .i64 v.2.1)), (5, .pv (.int .i64 v.2.2.1)), (6, .pv (.int .i64 v.2.2.2))], []⟩) (fun rec v => cadastrelaw0_LightLists_l5_b k (fun t4 => K .ret ⟨[(4, .pv (.bool t4))], []⟩) (fun most1 n5 => K (.exit 0) ⟨[(1, .pv (.int .i64 most1)), (5, .pv (.int .i64 n5))], []⟩) (fun l0 most1 n5 i6 => rec (l0, most1, n5, i6)) v.1 v.2.1 v.2.2.1 v.2.2.2) (fun n v => cadastrelaw0_LightLists_l5 k (fun t4 => K .ret ⟨[(4, .pv (.bool t4))], []⟩) (fun most1 n5 => K (.exit 0) ⟨[(1, .pv (.int .i64 most1)), (5, .pv (.int .i64 n5))], []⟩) n v.1 v.2.1 v.2.2.1 v.2.2.2) (fun n v => by kernel_rfl) (fun _ => rfl) (fun _ _ => rfl)
theorem cadastrelaw0_LightLists_l5_ok0 {ρ : Type} (k : Nat) : IterOK UX (cadastrelaw0_LightLists_cfg (ρ := ρ) k) (cadastrelaw0_LightLists_G k) (cadastrelaw0_LightLists_L.getD 0 .skip) 5 (cadastrelaw0_LightLists_l5_s k) := by
  intro s K r h
  obtain ⟨env, hp⟩ := s
  unfold cadastrelaw0_LightLists_l5_s at h
  replace h := popS_inv h; obtain ⟨v1, e2, rfl, h⟩ := h
  replace h := as_ll23_inv h; obtain ⟨l0, rfl, h⟩ := h
  replace h := popS_inv h; obtain ⟨v3, e4, rfl, h⟩ := h
  replace h := asI_inv h; obtain ⟨most1, rfl, h⟩ := h
  replace h := popS_inv h; obtain ⟨v5, e6, rfl, h⟩ := h
  replace h := asI_inv h; obtain ⟨n5, rfl, h⟩ := h
  replace h := popS_inv h; obtain ⟨v7, e8, rfl, h⟩ := h
  replace h := asI_inv h; obtain ⟨i6, rfl, h⟩ := h
  replace h := popN_inv h; obtain ⟨rfl, h⟩ := h
  replace h := popN_inv h; obtain ⟨rfl, h⟩ := h
  exact ⟨k, (cadastrelaw0_LightLists_l5_eq0 k K k (l0, most1, n5, i6)).trans h⟩
theorem cadastrelaw0_LightLists_l10_eq1 {ρ : Type} (k : Nat) (K : Ex → St UU → Option ρ) : ∀ (n : Nat) (v : (List (List S23)) × Int × Int × Int × Int), iterK UX (fun s => s.at (cadastrelaw0_LightLists_cfg (ρ := ρ) k).live (cadastrelaw0_LightLists_cfg (ρ := ρ) k).boxes (some 10)) (exec UX (cadastrelaw0_LightLists_cfg k) (cadastrelaw0_LightLists_G k) (cadastrelaw0_LightLists_L.getD 1 .skip)) n ⟨[(0, .pv (.typ (.ll23 v.1))), (1, .pv (.int .i64 v.2.1)), (5, .pv (.int .i64 v.2.2.1)), (6, .pv (.int .i64 v.2.2.2.1)), (7, .pv (.int .i64 v.2.2.2.2))], []⟩ (nrmK UX (cadastrelaw0_LightLists_cfg k) 10 K) = cadastrelaw0_LightLists_l10 k (fun l0 most1 n5 i6 => K (.exit 2) ⟨[(0, .pv (.typ (.ll23 l0))), (1, .pv (.int .i64 most1)), (5, .pv (.int .i64 n5)), (6, .pv (.int .i64 i6))], []⟩) n v.1 v.2.1 v.2.2.1 v.2.2.2.1 v.2.2.2.2 :=
  iter_rec (X := UX) (fun v => ⟨[(0, .pv (.typ (.ll23 v.1))), (1, .pv (.int .i64 v.2.1)), (5, .pv (.int .i64 v.2.2.1)), (6, .pv (.int .i64 v.2.2.2.1)), (7, .pv (.int .i64 v.2.2.2.2))], []⟩) (fun rec v => cadastrelaw0_LightLists_l10_b k (fun l0 most1 n5 i6 => K (.exit 2) ⟨[(0, .pv (.typ (.ll23 l0))), (1, .pv (.int .i64 most1)), (5, .pv (.int .i64 n5)), (6, .pv (.int .i64 i6))], []⟩) (fun l0 most1 n5 i6 k7 => rec (l0, most1, n5, i6, k7)) v.1 v.2.1 v.2.2.1 v.2.2.2.1 v.2.2.2.2) (fun n v => cadastrelaw0_LightLists_l10 k (fun l0 most1 n5 i6 => K (.exit 2) ⟨[(0, .pv (.typ (.ll23 l0))), (1, .pv (.int .i64 most1)), (5, .pv (.int .i64 n5)), (6, .pv (.int .i64 i6))], []⟩) n v.1 v.2.1 v.2.2.1 v.2.2.2.1 v.2.2.2.2) (fun n v => by kernel_rfl) (fun _ => rfl) (fun _ _ => rfl)
theorem cadastrelaw0_LightLists_l10_ok1 {ρ : Type} (k : Nat) : IterOK UX (cadastrelaw0_LightLists_cfg (ρ := ρ) k) (cadastrelaw0_LightLists_G k) (cadastrelaw0_LightLists_L.getD 1 .skip) 10 (cadastrelaw0_LightLists_l10_s k) := by
  intro s K r h
  obtain ⟨env, hp⟩ := s
  unfold cadastrelaw0_LightLists_l10_s at h
  replace h := popS_inv h; obtain ⟨v1, e2, rfl, h⟩ := h
  replace h := as_ll23_inv h; obtain ⟨l0, rfl, h⟩ := h
  replace h := popS_inv h; obtain ⟨v3, e4, rfl, h⟩ := h
  replace h := asI_inv h; obtain ⟨most1, rfl, h⟩ := h
  replace h := popS_inv h; obtain ⟨v5, e6, rfl, h⟩ := h
  replace h := asI_inv h; obtain ⟨n5, rfl, h⟩ := h
  replace h := popS_inv h; obtain ⟨v7, e8, rfl, h⟩ := h
  replace h := asI_inv h; obtain ⟨i6, rfl, h⟩ := h
  replace h := popS_inv h; obtain ⟨v9, e10, rfl, h⟩ := h
  replace h := asI_inv h; obtain ⟨k7, rfl, h⟩ := h
  replace h := popN_inv h; obtain ⟨rfl, h⟩ := h
  replace h := popN_inv h; obtain ⟨rfl, h⟩ := h
  exact ⟨k, (cadastrelaw0_LightLists_l10_eq1 k K k (l0, most1, n5, i6, k7)).trans h⟩
theorem cadastrelaw0_LightLists_cok {ρ : Type} (k : Nat) : COK (cadastrelaw0_LightLists_cfg (ρ := ρ) k) (cadastrelaw0_LightLists_G k) cadastrelaw0_LightLists_code :=
  cok_of (tl := [(10, cadastrelaw0_LightLists_l10_s k), (5, cadastrelaw0_LightLists_l5_s k)]) (tj := []) (tb := []) rfl rfl rfl (all_nth 2 (by kernel_rfl) ⟨iter_case (by kernel_rfl) rfl (cadastrelaw0_LightLists_l10_ok1 k), iter_case (by kernel_rfl) rfl (cadastrelaw0_LightLists_l5_ok0 k), trivial⟩) (nil_all (by kernel_rfl)) (fun p hp => by cases hp)
noncomputable def cadastrelaw0_LightLists_enc (r : Bool) : AV UU := .pv (.bool r)
noncomputable def cadastrelaw0_LightLists_dec (v : AV UU) (_ : List (List (AV UU))) : Option Bool :=
asB v fun r0 =>
some r0
theorem cadastrelaw0_LightLists_dec_enc (v : AV UU) (b : List (List (AV UU))) (r : Bool) (h : cadastrelaw0_LightLists_dec v b = some r) : v = cadastrelaw0_LightLists_enc r := by
  unfold cadastrelaw0_LightLists_dec at h
  replace h := asB_inv h; obtain ⟨r0, rfl, h⟩ := h
  cases h
  rfl
theorem cadastrelaw0_LightLists_eq (k : Nat) (l0 : List (List S23)) (most1 : Int) : bodyK UX (cadastrelaw0_LightLists_cfg k) (cadastrelaw0_LightLists_G k) Try.f35 [.pv (.typ (.ll23 l0)), .pv (.int .i64 most1)] [] cadastrelaw0_LightLists_dec = cadastrelaw0_LightLists k l0 most1 := by kernel_rfl
theorem cadastrelaw0_LightLists_con (k : Nat) (l0 : List (List S23)) (most1 : Int) (r : Bool) (h : cadastrelaw0_LightLists k l0 most1 = some r) : Con (X := UX) Try.prog 35 [.pv (.typ (.ll23 l0)), .pv (.int .i64 most1)] [] (cadastrelaw0_LightLists_enc r) [] :=
  con_of_body xok tok Try.func35 cadastrelaw0_LightLists_body (cadastrelaw0_LightLists_gok k) rfl (cadastrelaw0_LightLists_cok k) (of_decide_eq_true (by kernel_rfl)) cadastrelaw0_LightLists_dec_enc ((cadastrelaw0_LightLists_eq k l0 most1).trans h)
noncomputable def cadastrelaw0_LightLists_an {ρ : Type} (k : Nat) : An UX ρ := fun args bx K =>
popA args fun v1 a2 =>
as_ll23 v1 fun l0 =>
popA a2 fun v3 a4 =>
asI .i64 v3 fun most1 =>
popN a4 <|
popN bx <|
(cadastrelaw0_LightLists k l0 most1).bind fun r => K (cadastrelaw0_LightLists_enc r) []
theorem cadastrelaw0_LightLists_ok {ρ : Type} (k : Nat) : AnsOK Try.prog 35 (cadastrelaw0_LightLists_an (ρ := ρ) k) := by
  intro args bx K r h
  unfold cadastrelaw0_LightLists_an at h
  replace h := popA_inv h; obtain ⟨v1, a2, rfl, h⟩ := h
  replace h := as_ll23_inv h; obtain ⟨l0, rfl, h⟩ := h
  replace h := popA_inv h; obtain ⟨v3, a4, rfl, h⟩ := h
  replace h := asI_inv h; obtain ⟨most1, rfl, h⟩ := h
  replace h := popN_inv h; obtain ⟨rfl, h⟩ := h
  replace h := popN_inv h; obtain ⟨rfl, h⟩ := h
  replace h := bind_inv h
  obtain ⟨x, hx, h⟩ := h
  exact ⟨there_of Try.func35 (by kernel_rfl) cadastrelaw0_LightLists_body, _, _, h, cadastrelaw0_LightLists_con k l0 most1 x hx⟩

/-! cadastre/cadastrelaw7.heavy -/
noncomputable def cadastrelaw7_heavy_code : Code := match Try.f12.body with | some c => c | none => .skip
theorem cadastrelaw7_heavy_body : Try.f12.body = some cadastrelaw7_heavy_code := by kernel_rfl
noncomputable def cadastrelaw7_heavy_G {ρ : Type} (k : Nat) : Ans UX ρ := gk 34 (cadastrelaw0_Light_an k) (gk 35 (cadastrelaw0_LightLists_an k) (gnil))
theorem cadastrelaw7_heavy_gok {ρ : Type} (k : Nat) : GOK Try.prog (cadastrelaw7_heavy_G (ρ := ρ) k) := gok_cons (cadastrelaw0_Light_ok k) (gok_cons (cadastrelaw0_LightLists_ok k) (gok_nil))
noncomputable def cadastrelaw7_heavy_cfg {ρ : Type} (k : Nat) : Cfg UX ρ where
  live i := (assoc [(0, [0]), (1, [1])] i).getD []
  boxes i := (assoc [(0, []), (1, [1])] i).getD []
  tk _ := []
  n := 19
  labelR l := (assoc [] l).getD 0
  loops := assoc []
  labels := assoc []
  joins := assoc []
  xl i e := match e with
    | .nxt => assoc [] i
    | .ret => assoc [] i
    | .exit j => (assoc [] i).bind fun l => assoc l j
    | .goto j => (assoc [] i).bind fun l => assoc l j
noncomputable def cadastrelaw7_heavy_L : List Code := selI [] (loopsOf cadastrelaw7_heavy_code)
noncomputable def cadastrelaw7_heavy_J : List Code := selI [] (joinsOf cadastrelaw7_heavy_code)
noncomputable def cadastrelaw7_heavy_S : List Code := scopesOf cadastrelaw7_heavy_code
theorem cadastrelaw7_heavy_cok {ρ : Type} (k : Nat) : COK (cadastrelaw7_heavy_cfg (ρ := ρ) k) (cadastrelaw7_heavy_G k) cadastrelaw7_heavy_code :=
  cok_of (tl := []) (tj := []) (tb := []) rfl rfl rfl (nil_all (by kernel_rfl)) (nil_all (by kernel_rfl)) (fun p hp => by cases hp)
noncomputable def cadastrelaw7_heavy_enc (r : Bool) : AV UU := .pv (.bool r)
noncomputable def cadastrelaw7_heavy_dec (v : AV UU) (_ : List (List (AV UU))) : Option Bool :=
asB v fun r0 =>
some r0
theorem cadastrelaw7_heavy_dec_enc (v : AV UU) (b : List (List (AV UU))) (r : Bool) (h : cadastrelaw7_heavy_dec v b = some r) : v = cadastrelaw7_heavy_enc r := by
  unfold cadastrelaw7_heavy_dec at h
  replace h := asB_inv h; obtain ⟨r0, rfl, h⟩ := h
  cases h
  rfl
theorem cadastrelaw7_heavy_eq (k : Nat) (p0 : S38) : bodyK UX (cadastrelaw7_heavy_cfg k) (cadastrelaw7_heavy_G k) Try.f12 [.pv (.typ (.s38 p0))] [] cadastrelaw7_heavy_dec = cadastrelaw7_heavy k p0 := by kernel_rfl
theorem cadastrelaw7_heavy_con (k : Nat) (p0 : S38) (r : Bool) (h : cadastrelaw7_heavy k p0 = some r) : Con (X := UX) Try.prog 12 [.pv (.typ (.s38 p0))] [] (cadastrelaw7_heavy_enc r) [] :=
  con_of_body xok tok Try.func12 cadastrelaw7_heavy_body (cadastrelaw7_heavy_gok k) rfl (cadastrelaw7_heavy_cok k) (of_decide_eq_true (by kernel_rfl)) cadastrelaw7_heavy_dec_enc ((cadastrelaw7_heavy_eq k p0).trans h)
noncomputable def cadastrelaw7_heavy_an {ρ : Type} (k : Nat) : An UX ρ := fun args bx K =>
popA args fun v1 a2 =>
as_s38 v1 fun p0 =>
popN a2 <|
popN bx <|
(cadastrelaw7_heavy k p0).bind fun r => K (cadastrelaw7_heavy_enc r) []
theorem cadastrelaw7_heavy_ok {ρ : Type} (k : Nat) : AnsOK Try.prog 12 (cadastrelaw7_heavy_an (ρ := ρ) k) := by
  intro args bx K r h
  unfold cadastrelaw7_heavy_an at h
  replace h := popA_inv h; obtain ⟨v1, a2, rfl, h⟩ := h
  replace h := as_s38_inv h; obtain ⟨p0, rfl, h⟩ := h
  replace h := popN_inv h; obtain ⟨rfl, h⟩ := h
  replace h := popN_inv h; obtain ⟨rfl, h⟩ := h
  replace h := bind_inv h
  obtain ⟨x, hx, h⟩ := h
  exact ⟨there_of Try.func12 (by kernel_rfl) cadastrelaw7_heavy_body, _, _, h, cadastrelaw7_heavy_con k p0 x hx⟩

/-! cadastre/logic.answer -/
noncomputable def logic_answer_code : Code := match Try.f44.body with | some c => c | none => .skip
theorem logic_answer_body : Try.f44.body = some logic_answer_code := by kernel_rfl
noncomputable def logic_answer_G {ρ : Type} (k : Nat) : Ans UX ρ := gk 33 (value_Int_an k) (gnil)
theorem logic_answer_gok {ρ : Type} (k : Nat) : GOK Try.prog (logic_answer_G (ρ := ρ) k) := gok_cons (value_Int_ok k) (gok_nil)
noncomputable def logic_answer_cfg {ρ : Type} (k : Nat) : Cfg UX ρ where
  live i := (assoc [(0, [0]), (1, [0, 2])] i).getD []
  boxes i := (assoc [(0, []), (1, [2])] i).getD []
  tk _ := []
  n := 10
  labelR l := (assoc [] l).getD 0
  loops := assoc []
  labels := assoc []
  joins := assoc []
  xl i e := match e with
    | .nxt => assoc [] i
    | .ret => assoc [] i
    | .exit j => (assoc [] i).bind fun l => assoc l j
    | .goto j => (assoc [] i).bind fun l => assoc l j
noncomputable def logic_answer_L : List Code := selI [] (loopsOf logic_answer_code)
noncomputable def logic_answer_J : List Code := selI [] (joinsOf logic_answer_code)
noncomputable def logic_answer_S : List Code := scopesOf logic_answer_code
theorem logic_answer_cok {ρ : Type} (k : Nat) : COK (logic_answer_cfg (ρ := ρ) k) (logic_answer_G k) logic_answer_code :=
  cok_of (tl := []) (tj := []) (tb := []) rfl rfl rfl (nil_all (by kernel_rfl)) (nil_all (by kernel_rfl)) (fun p hp => by cases hp)
noncomputable def logic_answer_enc (r : S23) : AV UU := .pv (.typ (.s23 r))
noncomputable def logic_answer_dec (v : AV UU) (_ : List (List (AV UU))) : Option S23 :=
as_s23 v fun r0 =>
some r0
theorem logic_answer_dec_enc (v : AV UU) (b : List (List (AV UU))) (r : S23) (h : logic_answer_dec v b = some r) : v = logic_answer_enc r := by
  unfold logic_answer_dec at h
  replace h := as_s23_inv h; obtain ⟨r0, rfl, h⟩ := h
  cases h
  rfl
theorem logic_answer_eq (k : Nat) (t0 : Int) : bodyK UX (logic_answer_cfg k) (logic_answer_G k) Try.f44 [.pv (.int .i64 t0)] [] logic_answer_dec = logic_answer k t0 := by kernel_rfl
theorem logic_answer_con (k : Nat) (t0 : Int) (r : S23) (h : logic_answer k t0 = some r) : Con (X := UX) Try.prog 44 [.pv (.int .i64 t0)] [] (logic_answer_enc r) [] :=
  con_of_body xok tok Try.func44 logic_answer_body (logic_answer_gok k) rfl (logic_answer_cok k) (of_decide_eq_true (by kernel_rfl)) logic_answer_dec_enc ((logic_answer_eq k t0).trans h)
noncomputable def logic_answer_an {ρ : Type} (k : Nat) : An UX ρ := fun args bx K =>
popA args fun v1 a2 =>
asI .i64 v1 fun t0 =>
popN a2 <|
popN bx <|
(logic_answer k t0).bind fun r => K (logic_answer_enc r) []
theorem logic_answer_ok {ρ : Type} (k : Nat) : AnsOK Try.prog 44 (logic_answer_an (ρ := ρ) k) := by
  intro args bx K r h
  unfold logic_answer_an at h
  replace h := popA_inv h; obtain ⟨v1, a2, rfl, h⟩ := h
  replace h := asI_inv h; obtain ⟨t0, rfl, h⟩ := h
  replace h := popN_inv h; obtain ⟨rfl, h⟩ := h
  replace h := popN_inv h; obtain ⟨rfl, h⟩ := h
  replace h := bind_inv h
  obtain ⟨x, hx, h⟩ := h
  exact ⟨there_of Try.func44 (by kernel_rfl) logic_answer_body, _, _, h, logic_answer_con k t0 x hx⟩

/-! cadastre/logic.said -/
noncomputable def logic_said_code : Code := match Try.f41.body with | some c => c | none => .skip
theorem logic_said_body : Try.f41.body = some logic_said_code := by kernel_rfl
noncomputable def logic_said_G {ρ : Type} (k : Nat) : Ans UX ρ := gk 44 (logic_answer_an k) (gnil)
theorem logic_said_gok {ρ : Type} (k : Nat) : GOK Try.prog (logic_said_G (ρ := ρ) k) := gok_cons (logic_answer_ok k) (gok_nil)
noncomputable def logic_said_cfg {ρ : Type} (k : Nat) : Cfg UX ρ where
  live i := (assoc [(0, [0]), (1, [0, 2]), (2, [2]), (3, [2])] i).getD []
  boxes i := (assoc [(0, []), (1, [2]), (2, [2]), (3, [2])] i).getD []
  tk _ := []
  n := 6
  labelR l := (assoc [] l).getD 0
  loops := assoc []
  labels := assoc []
  joins := assoc []
  xl i e := match e with
    | .nxt => assoc [] i
    | .ret => assoc [] i
    | .exit j => (assoc [] i).bind fun l => assoc l j
    | .goto j => (assoc [] i).bind fun l => assoc l j
noncomputable def logic_said_L : List Code := selI [] (loopsOf logic_said_code)
noncomputable def logic_said_J : List Code := selI [] (joinsOf logic_said_code)
noncomputable def logic_said_S : List Code := scopesOf logic_said_code
theorem logic_said_cok {ρ : Type} (k : Nat) : COK (logic_said_cfg (ρ := ρ) k) (logic_said_G k) logic_said_code :=
  cok_of (tl := []) (tj := []) (tb := []) rfl rfl rfl (nil_all (by kernel_rfl)) (nil_all (by kernel_rfl)) (fun p hp => by cases hp)
noncomputable def logic_said_enc (r : S23) : AV UU := .pv (.typ (.s23 r))
noncomputable def logic_said_dec (v : AV UU) (_ : List (List (AV UU))) : Option S23 :=
as_s23 v fun r0 =>
some r0
theorem logic_said_dec_enc (v : AV UU) (b : List (List (AV UU))) (r : S23) (h : logic_said_dec v b = some r) : v = logic_said_enc r := by
  unfold logic_said_dec at h
  replace h := as_s23_inv h; obtain ⟨r0, rfl, h⟩ := h
  cases h
  rfl
theorem logic_said_eq (k : Nat) (so0 : Bool) : bodyK UX (logic_said_cfg k) (logic_said_G k) Try.f41 [.pv (.bool so0)] [] logic_said_dec = logic_said k so0 := by kernel_rfl
theorem logic_said_con (k : Nat) (so0 : Bool) (r : S23) (h : logic_said k so0 = some r) : Con (X := UX) Try.prog 41 [.pv (.bool so0)] [] (logic_said_enc r) [] :=
  con_of_body xok tok Try.func41 logic_said_body (logic_said_gok k) rfl (logic_said_cok k) (of_decide_eq_true (by kernel_rfl)) logic_said_dec_enc ((logic_said_eq k so0).trans h)
noncomputable def logic_said_an {ρ : Type} (k : Nat) : An UX ρ := fun args bx K =>
popA args fun v1 a2 =>
asB v1 fun so0 =>
popN a2 <|
popN bx <|
(logic_said k so0).bind fun r => K (logic_said_enc r) []
theorem logic_said_ok {ρ : Type} (k : Nat) : AnsOK Try.prog 41 (logic_said_an (ρ := ρ) k) := by
  intro args bx K r h
  unfold logic_said_an at h
  replace h := popA_inv h; obtain ⟨v1, a2, rfl, h⟩ := h
  replace h := asB_inv h; obtain ⟨so0, rfl, h⟩ := h
  replace h := popN_inv h; obtain ⟨rfl, h⟩ := h
  replace h := popN_inv h; obtain ⟨rfl, h⟩ := h
  replace h := bind_inv h
  obtain ⟨x, hx, h⟩ := h
  exact ⟨there_of Try.func41 (by kernel_rfl) logic_said_body, _, _, h, logic_said_con k so0 x hx⟩
end Go.Proofs.Ytahgjfdndpnpfaa.T
