/-
  What the program's functions answer: the printed functions' answers.
-/
import Derived.Test.YtjkgphpmdkbpfaaDoorVG0
namespace Go.Proofs.YtjkgphpmdkbpfaaDoor.V
open Go Go.AX
/-! cadastre/cadastreref4.mul -/
noncomputable def cadastreref4_mul_code : Code := match Tryd.f51.body with | some c => c | none => .skip
theorem cadastreref4_mul_body : Tryd.f51.body = some cadastreref4_mul_code := by kernel_rfl
noncomputable def cadastreref4_mul_G {ρ : Type} (k : Nat) : Ans UX ρ := gnil
theorem cadastreref4_mul_gok {ρ : Type} (k : Nat) : GOK Tryd.prog (cadastreref4_mul_G (ρ := ρ) k) := gok_nil
noncomputable def cadastreref4_mul_j5_s {ρ : Type} (k : Nat) : Run UX ρ := fun s K =>
popS 0 s.env fun v1 e2 =>
asI .i64 v1 fun a0 =>
popS 1 e2 fun v3 e4 =>
asI .i64 v3 fun b1 =>
popN e4 <|
popN s.hp <|
cadastreref4_mul_j5 k (fun t4 t5 => K .ret ⟨[(4, .pv (.int .i64 t4)), (5, .pv (.bool t5))], []⟩) a0 b1
noncomputable def cadastreref4_mul_j3_s {ρ : Type} (k : Nat) : Run UX ρ := fun s K =>
popS 0 s.env fun v1 e2 =>
asI .i64 v1 fun a0 =>
popS 1 e2 fun v3 e4 =>
asI .i64 v3 fun b1 =>
popN e4 <|
popN s.hp <|
cadastreref4_mul_j3 k (fun t4 t5 => K .ret ⟨[(4, .pv (.int .i64 t4)), (5, .pv (.bool t5))], []⟩) a0 b1
noncomputable def cadastreref4_mul_cfg {ρ : Type} (k : Nat) : Cfg UX ρ where
  live i := (assoc [(0, [0, 1]), (1, [0, 1]), (2, []), (3, [0, 1]), (4, []), (5, [0, 1]), (6, [0, 1, 6])] i).getD []
  boxes i := (assoc [(0, []), (1, []), (2, []), (3, []), (4, []), (5, []), (6, [])] i).getD []
  tk i := (assoc [] i).getD []
  n := 36
  labelR l := (assoc [] l).getD 0
  loops := assoc []
  labels := assoc []
  joins := assoc [(5, cadastreref4_mul_j5_s k), (3, cadastreref4_mul_j3_s k)]
  xl i e := match e with
    | .nxt => assoc [] i
    | .ret => assoc [(5, ([4, 5], [])), (3, ([4, 5], []))] i
    | .exit j => (assoc [] i).bind fun l => assoc l j
    | .goto j => (assoc [] i).bind fun l => assoc l j
noncomputable def cadastreref4_mul_L : List Code := selI [] (loopsOf cadastreref4_mul_code)
noncomputable def cadastreref4_mul_J : List Code := selI [5, 3] (joinsOf cadastreref4_mul_code)
noncomputable def cadastreref4_mul_S : List Code := scopesOf cadastreref4_mul_code
theorem cadastreref4_mul_j3_eq0 {ρ : Type} (k : Nat) (K : Ex → St UU → Option ρ) (a0 : Int) (b1 : Int) : exec UX (cadastreref4_mul_cfg k) (cadastreref4_mul_G k) (cadastreref4_mul_J.getD 0 .skip) ⟨[(0, .pv (.int .i64 a0)), (1, .pv (.int .i64 b1))], []⟩ (nrmK UX (cadastreref4_mul_cfg k) 3 K) = cadastreref4_mul_j3 k (fun t4 t5 => K .ret ⟨[(4, .pv (.int .i64 t4)), (5, .pv (.bool t5))], []⟩) a0 b1 := by kernel_rfl
theorem cadastreref4_mul_j3_ok0 {ρ : Type} (k : Nat) : JoinOK UX (cadastreref4_mul_cfg (ρ := ρ) k) (cadastreref4_mul_G k) (cadastreref4_mul_J.getD 0 .skip) 3 (cadastreref4_mul_j3_s k) := by
  intro s K r h
  obtain ⟨env, hp⟩ := s
  unfold cadastreref4_mul_j3_s at h
  replace h := popS_inv h; obtain ⟨v1, e2, rfl, h⟩ := h
  replace h := asI_inv h; obtain ⟨a0, rfl, h⟩ := h
  replace h := popS_inv h; obtain ⟨v3, e4, rfl, h⟩ := h
  replace h := asI_inv h; obtain ⟨b1, rfl, h⟩ := h
  replace h := popN_inv h; obtain ⟨rfl, h⟩ := h
  replace h := popN_inv h; obtain ⟨rfl, h⟩ := h
  exact (cadastreref4_mul_j3_eq0 k K a0 b1).trans h
theorem cadastreref4_mul_j5_eq1 {ρ : Type} (k : Nat) (K : Ex → St UU → Option ρ) (a0 : Int) (b1 : Int) : exec UX (cadastreref4_mul_cfg k) (cadastreref4_mul_G k) (cadastreref4_mul_J.getD 1 .skip) ⟨[(0, .pv (.int .i64 a0)), (1, .pv (.int .i64 b1))], []⟩ (nrmK UX (cadastreref4_mul_cfg k) 5 K) = cadastreref4_mul_j5 k (fun t4 t5 => K .ret ⟨[(4, .pv (.int .i64 t4)), (5, .pv (.bool t5))], []⟩) a0 b1 := by kernel_rfl
theorem cadastreref4_mul_j5_ok1 {ρ : Type} (k : Nat) : JoinOK UX (cadastreref4_mul_cfg (ρ := ρ) k) (cadastreref4_mul_G k) (cadastreref4_mul_J.getD 1 .skip) 5 (cadastreref4_mul_j5_s k) := by
  intro s K r h
  obtain ⟨env, hp⟩ := s
  unfold cadastreref4_mul_j5_s at h
  replace h := popS_inv h; obtain ⟨v1, e2, rfl, h⟩ := h
  replace h := asI_inv h; obtain ⟨a0, rfl, h⟩ := h
  replace h := popS_inv h; obtain ⟨v3, e4, rfl, h⟩ := h
  replace h := asI_inv h; obtain ⟨b1, rfl, h⟩ := h
  replace h := popN_inv h; obtain ⟨rfl, h⟩ := h
  replace h := popN_inv h; obtain ⟨rfl, h⟩ := h
  exact (cadastreref4_mul_j5_eq1 k K a0 b1).trans h
theorem cadastreref4_mul_cok {ρ : Type} (k : Nat) : COK (cadastreref4_mul_cfg (ρ := ρ) k) (cadastreref4_mul_G k) cadastreref4_mul_code :=
  cok_of (tl := []) (tj := [(5, cadastreref4_mul_j5_s k), (3, cadastreref4_mul_j3_s k)]) (tb := []) rfl rfl rfl (nil_all (by kernel_rfl)) (all_nth 2 (by kernel_rfl) ⟨join_case (by kernel_rfl) rfl (cadastreref4_mul_j5_ok1 k), join_case (by kernel_rfl) rfl (cadastreref4_mul_j3_ok0 k), trivial⟩) (fun p hp => by cases hp)
noncomputable def cadastreref4_mul_enc (r : Int × Bool) : AV UU := .pv (.tup [.int .i64 r.1, .bool r.2])
noncomputable def cadastreref4_mul_dec (v : AV UU) (_ : List (List (AV UU))) : Option (Int × Bool) :=
asT v fun q1 =>
popA q1 fun p2 q3 =>
asI .i64 (.pv p2) fun r0 =>
popA q3 fun p4 q5 =>
asB (.pv p4) fun r1 =>
popN q5 <|
some (r0, r1)
theorem cadastreref4_mul_dec_enc (v : AV UU) (b : List (List (AV UU))) (r : Int × Bool) (h : cadastreref4_mul_dec v b = some r) : v = cadastreref4_mul_enc r := by
  unfold cadastreref4_mul_dec at h
  replace h := asT_inv h; obtain ⟨q1, rfl, h⟩ := h
  replace h := popA_inv h; obtain ⟨p2, q3, rfl, h⟩ := h
  replace h := asI_inv h; obtain ⟨r0, e, h⟩ := h; cases e
  replace h := popA_inv h; obtain ⟨p4, q5, rfl, h⟩ := h
  replace h := asB_inv h; obtain ⟨r1, e, h⟩ := h; cases e
  replace h := popN_inv h; obtain ⟨rfl, h⟩ := h
  cases h
  rfl
theorem cadastreref4_mul_eq (k : Nat) (a0 : Int) (b1 : Int) : bodyK UX (cadastreref4_mul_cfg k) (cadastreref4_mul_G k) Tryd.f51 [.pv (.int .i64 a0), .pv (.int .i64 b1)] [] cadastreref4_mul_dec = cadastreref4_mul k a0 b1 := by kernel_rfl
theorem cadastreref4_mul_con (k : Nat) (a0 : Int) (b1 : Int) (r : Int × Bool) (h : cadastreref4_mul k a0 b1 = some r) : Con (X := UX) Tryd.prog 51 [.pv (.int .i64 a0), .pv (.int .i64 b1)] [] (cadastreref4_mul_enc r) [] :=
  con_of_body xok tok Tryd.func51 cadastreref4_mul_body (cadastreref4_mul_gok k) rfl (cadastreref4_mul_cok k) (of_decide_eq_true (by kernel_rfl)) cadastreref4_mul_dec_enc ((cadastreref4_mul_eq k a0 b1).trans h)
noncomputable def cadastreref4_mul_an {ρ : Type} (k : Nat) : An UX ρ := fun args bx K =>
popA args fun v1 a2 =>
asI .i64 v1 fun a0 =>
popA a2 fun v3 a4 =>
asI .i64 v3 fun b1 =>
popN a4 <|
popN bx <|
(cadastreref4_mul k a0 b1).bind fun r => K (cadastreref4_mul_enc r) []
theorem cadastreref4_mul_ok {ρ : Type} (k : Nat) : AnsOK Tryd.prog 51 (cadastreref4_mul_an (ρ := ρ) k) := by
  intro args bx K r h
  unfold cadastreref4_mul_an at h
  replace h := popA_inv h; obtain ⟨v1, a2, rfl, h⟩ := h
  replace h := asI_inv h; obtain ⟨a0, rfl, h⟩ := h
  replace h := popA_inv h; obtain ⟨v3, a4, rfl, h⟩ := h
  replace h := asI_inv h; obtain ⟨b1, rfl, h⟩ := h
  replace h := popN_inv h; obtain ⟨rfl, h⟩ := h
  replace h := popN_inv h; obtain ⟨rfl, h⟩ := h
  replace h := bind_inv h
  obtain ⟨x, hx, h⟩ := h
  exact ⟨there_of Tryd.func51 (by kernel_rfl) cadastreref4_mul_body, _, _, h, cadastreref4_mul_con k a0 b1 x hx⟩

/-! cadastre/cadastreref4.Do -/
noncomputable def cadastreref4_Do_code : Code := match Tryd.f37.body with | some c => c | none => .skip
theorem cadastreref4_Do_body : Tryd.f37.body = some cadastreref4_Do_code := by kernel_rfl
noncomputable def cadastreref4_Do_G {ρ : Type} (k : Nat) : Ans UX ρ := gk 51 (cadastreref4_mul_an k) (gk 15 (cadastreref2_Int_an k) (gnil))
theorem cadastreref4_Do_gok {ρ : Type} (k : Nat) : GOK Tryd.prog (cadastreref4_Do_G (ρ := ρ) k) := gok_cons (cadastreref4_mul_ok k) (gok_cons (cadastreref2_Int_ok k) (gok_nil))
noncomputable def cadastreref4_Do_j28_s {ρ : Type} (k : Nat) : Run UX ρ := fun s K =>
popS 6 s.env fun v1 e2 =>
asP 6 0 v1 <|
popS 10 e2 fun v3 e4 =>
asI .i64 v3 fun n10 =>
popS 11 e4 fun v5 e6 =>
asB v5 fun ok11 =>
popN e6 <|
popB 6 s.hp fun c7 e8 =>
popA c7 fun v9 c10 =>
asI .i64 v9 fun z11 =>
popA c10 fun v12 c13 =>
asI .i64 v12 fun z14 =>
popA c13 fun v15 c16 =>
asS v15 fun z17 =>
popN c16 <|
popN e8 <|
cadastreref4_Do_j28 k (fun t7 t6 => K .ret ⟨[(6, .ptr 6 0), (7, .pv (.int .i64 t7))], [(6, [.pv (.int .i64 t6.f0), .pv (.int .i64 t6.f1), .pv (.str t6.f2)])]⟩) n10 ok11 (⟨z11, z14, z17⟩ : S29)
noncomputable def cadastreref4_Do_j5_s {ρ : Type} (k : Nat) : Run UX ρ := fun s K =>
popS 0 s.env fun v1 e2 =>
asI .i64 v1 fun op0 =>
popS 4 e2 fun v3 e4 =>
asP 4 0 v3 <|
popS 5 e4 fun v5 e6 =>
asP 5 0 v5 <|
popS 6 e6 fun v7 e8 =>
asP 6 0 v7 <|
popN e8 <|
popB 4 s.hp fun c9 e10 =>
popA c9 fun v11 c12 =>
asI .i64 v11 fun z13 =>
popA c12 fun v14 c15 =>
asI .i64 v14 fun z16 =>
popA c15 fun v17 c18 =>
asS v17 fun z19 =>
popN c18 <|
popB 5 e10 fun c20 e21 =>
popA c20 fun v22 c23 =>
asI .i64 v22 fun z24 =>
popA c23 fun v25 c26 =>
asI .i64 v25 fun z27 =>
popA c26 fun v28 c29 =>
asS v28 fun z30 =>
popN c29 <|
popB 6 e21 fun c31 e32 =>
popA c31 fun v33 c34 =>
asI .i64 v33 fun z35 =>
popA c34 fun v36 c37 =>
asI .i64 v36 fun z38 =>
popA c37 fun v39 c40 =>
asS v39 fun z41 =>
popN c40 <|
popN e32 <|
cadastreref4_Do_j5 k (fun t7 t6 => K .ret ⟨[(6, .ptr 6 0), (7, .pv (.int .i64 t7))], [(6, [.pv (.int .i64 t6.f0), .pv (.int .i64 t6.f1), .pv (.str t6.f2)])]⟩) op0 (⟨z13, z16, z19⟩ : S29) (⟨z24, z27, z30⟩ : S29) (⟨z35, z38, z41⟩ : S29)
noncomputable def cadastreref4_Do_j3_s {ρ : Type} (k : Nat) : Run UX ρ := fun s K =>
popS 0 s.env fun v1 e2 =>
asI .i64 v1 fun op0 =>
popS 4 e2 fun v3 e4 =>
asP 4 0 v3 <|
popS 5 e4 fun v5 e6 =>
asP 5 0 v5 <|
popS 6 e6 fun v7 e8 =>
asP 6 0 v7 <|
popN e8 <|
popB 4 s.hp fun c9 e10 =>
popA c9 fun v11 c12 =>
asI .i64 v11 fun z13 =>
popA c12 fun v14 c15 =>
asI .i64 v14 fun z16 =>
popA c15 fun v17 c18 =>
asS v17 fun z19 =>
popN c18 <|
popB 5 e10 fun c20 e21 =>
popA c20 fun v22 c23 =>
asI .i64 v22 fun z24 =>
popA c23 fun v25 c26 =>
asI .i64 v25 fun z27 =>
popA c26 fun v28 c29 =>
asS v28 fun z30 =>
popN c29 <|
popB 6 e21 fun c31 e32 =>
popA c31 fun v33 c34 =>
asI .i64 v33 fun z35 =>
popA c34 fun v36 c37 =>
asI .i64 v36 fun z38 =>
popA c37 fun v39 c40 =>
asS v39 fun z41 =>
popN c40 <|
popN e32 <|
cadastreref4_Do_j3 k (fun t7 t6 => K .ret ⟨[(6, .ptr 6 0), (7, .pv (.int .i64 t7))], [(6, [.pv (.int .i64 t6.f0), .pv (.int .i64 t6.f1), .pv (.str t6.f2)])]⟩) op0 (⟨z13, z16, z19⟩ : S29) (⟨z24, z27, z30⟩ : S29) (⟨z35, z38, z41⟩ : S29)
noncomputable def cadastreref4_Do_cfg {ρ : Type} (k : Nat) : Cfg UX ρ where
  live i := (assoc [(0, [0, 1, 2]), (1, [0, 4, 5, 6]), (2, [6]), (3, [0, 4, 5, 6]), (4, [6]), (5, [0, 4, 5, 6]), (6, [0, 5, 6, 8]), (7, [0, 6, 8, 9]), (8, [0, 6, 8, 9]), (9, [0, 6, 8, 9, 11]), (10, [0, 6, 8, 9, 11]), (11, [6]), (12, [0, 6, 8, 9, 11]), (13, [0, 6, 8]), (14, [6]), (15, [6, 8]), (16, [6, 8, 10]), (17, [0, 6, 8, 9, 11]), (18, [6, 8, 9, 11]), (19, [6, 8, 9, 11]), (20, [0, 6, 8, 9, 11, 34]), (21, [6, 8, 9]), (22, [0, 6, 8, 9, 11, 34]), (23, [6, 8, 9]), (24, [6, 8, 9, 10]), (25, [0, 6, 8, 9, 11, 34]), (26, [6, 8, 9]), (27, [6, 8, 9, 10]), (28, [6, 10, 11]), (29, [6]), (30, [6, 10])] i).getD []
  boxes i := (assoc [(0, []), (1, [4, 5, 6]), (2, [6]), (3, [4, 5, 6]), (4, [6]), (5, [4, 5, 6]), (6, [5, 6]), (7, [6]), (8, [6]), (9, [6]), (10, [6]), (11, [6]), (12, [6]), (13, [6]), (14, [6]), (15, [6]), (16, [6]), (17, [6]), (18, [6]), (19, [6]), (20, [6]), (21, [6]), (22, [6]), (23, [6]), (24, [6]), (25, [6]), (26, [6]), (27, [6]), (28, [6]), (29, [6]), (30, [6])] i).getD []
  tk i := (assoc [] i).getD []
  n := 90
  labelR l := (assoc [] l).getD 0
  loops := assoc []
  labels := assoc []
  joins := assoc [(28, cadastreref4_Do_j28_s k), (5, cadastreref4_Do_j5_s k), (3, cadastreref4_Do_j3_s k)]
  xl i e := match e with
    | .nxt => assoc [] i
    | .ret => assoc [(28, ([6, 7], [6])), (5, ([6, 7], [6])), (3, ([6, 7], [6]))] i
    | .exit j => (assoc [] i).bind fun l => assoc l j
    | .goto j => (assoc [] i).bind fun l => assoc l j
noncomputable def cadastreref4_Do_L : List Code := selI [] (loopsOf cadastreref4_Do_code)
noncomputable def cadastreref4_Do_J : List Code := selI [28, 5, 3] (joinsOf cadastreref4_Do_code)
noncomputable def cadastreref4_Do_S : List Code := scopesOf cadastreref4_Do_code
theorem cadastreref4_Do_j3_eq0 {ρ : Type} (k : Nat) (K : Ex → St UU → Option ρ) (op0 : Int) (a4 : S29) (b5 : S29) (t6 : S29) : exec UX (cadastreref4_Do_cfg k) (cadastreref4_Do_G k) (cadastreref4_Do_J.getD 0 .skip) ⟨[(0, .pv (.int .i64 op0)), (4, .ptr 4 0), (5, .ptr 5 0), (6, .ptr 6 0)], [(4, [.pv (.int .i64 a4.f0), .pv (.int .i64 a4.f1), .pv (.str a4.f2)]), (5, [.pv (.int .i64 b5.f0), .pv (.int .i64 b5.f1), .pv (.str b5.f2)]), (6, [.pv (.int .i64 t6.f0), .pv (.int .i64 t6.f1), .pv (.str t6.f2)])]⟩ (nrmK UX (cadastreref4_Do_cfg k) 3 K) = cadastreref4_Do_j3 k (fun t7 t6 => K .ret ⟨[(6, .ptr 6 0), (7, .pv (.int .i64 t7))], [(6, [.pv (.int .i64 t6.f0), .pv (.int .i64 t6.f1), .pv (.str t6.f2)])]⟩) op0 a4 b5 t6 := by kernel_rfl
theorem cadastreref4_Do_j3_ok0 {ρ : Type} (k : Nat) : JoinOK UX (cadastreref4_Do_cfg (ρ := ρ) k) (cadastreref4_Do_G k) (cadastreref4_Do_J.getD 0 .skip) 3 (cadastreref4_Do_j3_s k) := by
  intro s K r h
  obtain ⟨env, hp⟩ := s
  unfold cadastreref4_Do_j3_s at h
  replace h := popS_inv h; obtain ⟨v1, e2, rfl, h⟩ := h
  replace h := asI_inv h; obtain ⟨op0, rfl, h⟩ := h
  replace h := popS_inv h; obtain ⟨v3, e4, rfl, h⟩ := h
  replace h := asP_inv h; obtain ⟨rfl, h⟩ := h
  replace h := popS_inv h; obtain ⟨v5, e6, rfl, h⟩ := h
  replace h := asP_inv h; obtain ⟨rfl, h⟩ := h
  replace h := popS_inv h; obtain ⟨v7, e8, rfl, h⟩ := h
  replace h := asP_inv h; obtain ⟨rfl, h⟩ := h
  replace h := popN_inv h; obtain ⟨rfl, h⟩ := h
  replace h := popB_inv h; obtain ⟨c9, e10, rfl, h⟩ := h
  replace h := popA_inv h; obtain ⟨v11, c12, rfl, h⟩ := h
  replace h := asI_inv h; obtain ⟨z13, rfl, h⟩ := h
  replace h := popA_inv h; obtain ⟨v14, c15, rfl, h⟩ := h
  replace h := asI_inv h; obtain ⟨z16, rfl, h⟩ := h
  replace h := popA_inv h; obtain ⟨v17, c18, rfl, h⟩ := h
  replace h := asS_inv h; obtain ⟨z19, rfl, h⟩ := h
  replace h := popN_inv h; obtain ⟨rfl, h⟩ := h
  replace h := popB_inv h; obtain ⟨c20, e21, rfl, h⟩ := h
  replace h := popA_inv h; obtain ⟨v22, c23, rfl, h⟩ := h
  replace h := asI_inv h; obtain ⟨z24, rfl, h⟩ := h
  replace h := popA_inv h; obtain ⟨v25, c26, rfl, h⟩ := h
  replace h := asI_inv h; obtain ⟨z27, rfl, h⟩ := h
  replace h := popA_inv h; obtain ⟨v28, c29, rfl, h⟩ := h
  replace h := asS_inv h; obtain ⟨z30, rfl, h⟩ := h
  replace h := popN_inv h; obtain ⟨rfl, h⟩ := h
  replace h := popB_inv h; obtain ⟨c31, e32, rfl, h⟩ := h
  replace h := popA_inv h; obtain ⟨v33, c34, rfl, h⟩ := h
  replace h := asI_inv h; obtain ⟨z35, rfl, h⟩ := h
  replace h := popA_inv h; obtain ⟨v36, c37, rfl, h⟩ := h
  replace h := asI_inv h; obtain ⟨z38, rfl, h⟩ := h
  replace h := popA_inv h; obtain ⟨v39, c40, rfl, h⟩ := h
  replace h := asS_inv h; obtain ⟨z41, rfl, h⟩ := h
  replace h := popN_inv h; obtain ⟨rfl, h⟩ := h
  replace h := popN_inv h; obtain ⟨rfl, h⟩ := h
  exact (cadastreref4_Do_j3_eq0 k K op0 (⟨z13, z16, z19⟩ : S29) (⟨z24, z27, z30⟩ : S29) (⟨z35, z38, z41⟩ : S29)).trans h
theorem cadastreref4_Do_j5_eq1 {ρ : Type} (k : Nat) (K : Ex → St UU → Option ρ) (op0 : Int) (a4 : S29) (b5 : S29) (t6 : S29) : exec UX (cadastreref4_Do_cfg k) (cadastreref4_Do_G k) (cadastreref4_Do_J.getD 1 .skip) ⟨[(0, .pv (.int .i64 op0)), (4, .ptr 4 0), (5, .ptr 5 0), (6, .ptr 6 0)], [(4, [.pv (.int .i64 a4.f0), .pv (.int .i64 a4.f1), .pv (.str a4.f2)]), (5, [.pv (.int .i64 b5.f0), .pv (.int .i64 b5.f1), .pv (.str b5.f2)]), (6, [.pv (.int .i64 t6.f0), .pv (.int .i64 t6.f1), .pv (.str t6.f2)])]⟩ (nrmK UX (cadastreref4_Do_cfg k) 5 K) = cadastreref4_Do_j5 k (fun t7 t6 => K .ret ⟨[(6, .ptr 6 0), (7, .pv (.int .i64 t7))], [(6, [.pv (.int .i64 t6.f0), .pv (.int .i64 t6.f1), .pv (.str t6.f2)])]⟩) op0 a4 b5 t6 := by kernel_rfl
theorem cadastreref4_Do_j5_ok1 {ρ : Type} (k : Nat) : JoinOK UX (cadastreref4_Do_cfg (ρ := ρ) k) (cadastreref4_Do_G k) (cadastreref4_Do_J.getD 1 .skip) 5 (cadastreref4_Do_j5_s k) := by
  intro s K r h
  obtain ⟨env, hp⟩ := s
  unfold cadastreref4_Do_j5_s at h
  replace h := popS_inv h; obtain ⟨v1, e2, rfl, h⟩ := h
  replace h := asI_inv h; obtain ⟨op0, rfl, h⟩ := h
  replace h := popS_inv h; obtain ⟨v3, e4, rfl, h⟩ := h
  replace h := asP_inv h; obtain ⟨rfl, h⟩ := h
  replace h := popS_inv h; obtain ⟨v5, e6, rfl, h⟩ := h
  replace h := asP_inv h; obtain ⟨rfl, h⟩ := h
  replace h := popS_inv h; obtain ⟨v7, e8, rfl, h⟩ := h
  replace h := asP_inv h; obtain ⟨rfl, h⟩ := h
  replace h := popN_inv h; obtain ⟨rfl, h⟩ := h
  replace h := popB_inv h; obtain ⟨c9, e10, rfl, h⟩ := h
  replace h := popA_inv h; obtain ⟨v11, c12, rfl, h⟩ := h
  replace h := asI_inv h; obtain ⟨z13, rfl, h⟩ := h
  replace h := popA_inv h; obtain ⟨v14, c15, rfl, h⟩ := h
  replace h := asI_inv h; obtain ⟨z16, rfl, h⟩ := h
  replace h := popA_inv h; obtain ⟨v17, c18, rfl, h⟩ := h
  replace h := asS_inv h; obtain ⟨z19, rfl, h⟩ := h
  replace h := popN_inv h; obtain ⟨rfl, h⟩ := h
  replace h := popB_inv h; obtain ⟨c20, e21, rfl, h⟩ := h
  replace h := popA_inv h; obtain ⟨v22, c23, rfl, h⟩ := h
  replace h := asI_inv h; obtain ⟨z24, rfl, h⟩ := h
  replace h := popA_inv h; obtain ⟨v25, c26, rfl, h⟩ := h
  replace h := asI_inv h; obtain ⟨z27, rfl, h⟩ := h
  replace h := popA_inv h; obtain ⟨v28, c29, rfl, h⟩ := h
  replace h := asS_inv h; obtain ⟨z30, rfl, h⟩ := h
  replace h := popN_inv h; obtain ⟨rfl, h⟩ := h
  replace h := popB_inv h; obtain ⟨c31, e32, rfl, h⟩ := h
  replace h := popA_inv h; obtain ⟨v33, c34, rfl, h⟩ := h
  replace h := asI_inv h; obtain ⟨z35, rfl, h⟩ := h
  replace h := popA_inv h; obtain ⟨v36, c37, rfl, h⟩ := h
  replace h := asI_inv h; obtain ⟨z38, rfl, h⟩ := h
  replace h := popA_inv h; obtain ⟨v39, c40, rfl, h⟩ := h
  replace h := asS_inv h; obtain ⟨z41, rfl, h⟩ := h
  replace h := popN_inv h; obtain ⟨rfl, h⟩ := h
  replace h := popN_inv h; obtain ⟨rfl, h⟩ := h
  exact (cadastreref4_Do_j5_eq1 k K op0 (⟨z13, z16, z19⟩ : S29) (⟨z24, z27, z30⟩ : S29) (⟨z35, z38, z41⟩ : S29)).trans h
theorem cadastreref4_Do_j28_eq2 {ρ : Type} (k : Nat) (K : Ex → St UU → Option ρ) (n10 : Int) (ok11 : Bool) (t6 : S29) : exec UX (cadastreref4_Do_cfg k) (cadastreref4_Do_G k) (cadastreref4_Do_J.getD 2 .skip) ⟨[(6, .ptr 6 0), (10, .pv (.int .i64 n10)), (11, .pv (.bool ok11))], [(6, [.pv (.int .i64 t6.f0), .pv (.int .i64 t6.f1), .pv (.str t6.f2)])]⟩ (nrmK UX (cadastreref4_Do_cfg k) 28 K) = cadastreref4_Do_j28 k (fun t7 t6 => K .ret ⟨[(6, .ptr 6 0), (7, .pv (.int .i64 t7))], [(6, [.pv (.int .i64 t6.f0), .pv (.int .i64 t6.f1), .pv (.str t6.f2)])]⟩) n10 ok11 t6 := by kernel_rfl
theorem cadastreref4_Do_j28_ok2 {ρ : Type} (k : Nat) : JoinOK UX (cadastreref4_Do_cfg (ρ := ρ) k) (cadastreref4_Do_G k) (cadastreref4_Do_J.getD 2 .skip) 28 (cadastreref4_Do_j28_s k) := by
  intro s K r h
  obtain ⟨env, hp⟩ := s
  unfold cadastreref4_Do_j28_s at h
  replace h := popS_inv h; obtain ⟨v1, e2, rfl, h⟩ := h
  replace h := asP_inv h; obtain ⟨rfl, h⟩ := h
  replace h := popS_inv h; obtain ⟨v3, e4, rfl, h⟩ := h
  replace h := asI_inv h; obtain ⟨n10, rfl, h⟩ := h
  replace h := popS_inv h; obtain ⟨v5, e6, rfl, h⟩ := h
  replace h := asB_inv h; obtain ⟨ok11, rfl, h⟩ := h
  replace h := popN_inv h; obtain ⟨rfl, h⟩ := h
  replace h := popB_inv h; obtain ⟨c7, e8, rfl, h⟩ := h
  replace h := popA_inv h; obtain ⟨v9, c10, rfl, h⟩ := h
  replace h := asI_inv h; obtain ⟨z11, rfl, h⟩ := h
  replace h := popA_inv h; obtain ⟨v12, c13, rfl, h⟩ := h
  replace h := asI_inv h; obtain ⟨z14, rfl, h⟩ := h
  replace h := popA_inv h; obtain ⟨v15, c16, rfl, h⟩ := h
  replace h := asS_inv h; obtain ⟨z17, rfl, h⟩ := h
  replace h := popN_inv h; obtain ⟨rfl, h⟩ := h
  replace h := popN_inv h; obtain ⟨rfl, h⟩ := h
  exact (cadastreref4_Do_j28_eq2 k K n10 ok11 (⟨z11, z14, z17⟩ : S29)).trans h
theorem cadastreref4_Do_cok {ρ : Type} (k : Nat) : COK (cadastreref4_Do_cfg (ρ := ρ) k) (cadastreref4_Do_G k) cadastreref4_Do_code :=
  cok_of (tl := []) (tj := [(28, cadastreref4_Do_j28_s k), (5, cadastreref4_Do_j5_s k), (3, cadastreref4_Do_j3_s k)]) (tb := []) rfl rfl rfl (nil_all (by kernel_rfl)) (all_nth 3 (by kernel_rfl) ⟨join_case (by kernel_rfl) rfl (cadastreref4_Do_j28_ok2 k), join_case (by kernel_rfl) rfl (cadastreref4_Do_j5_ok1 k), join_case (by kernel_rfl) rfl (cadastreref4_Do_j3_ok0 k), trivial⟩) (fun p hp => by cases hp)
noncomputable def cadastreref4_Do_enc (r : S29 × Int) : AV UU := .pv (.tup [.typ (.s29 r.1), .int .i64 r.2])
noncomputable def cadastreref4_Do_dec (v : AV UU) (_ : List (List (AV UU))) : Option (S29 × Int) :=
asT v fun q1 =>
popA q1 fun p2 q3 =>
as_s29 (.pv p2) fun r0 =>
popA q3 fun p4 q5 =>
asI .i64 (.pv p4) fun r1 =>
popN q5 <|
some (r0, r1)
theorem cadastreref4_Do_dec_enc (v : AV UU) (b : List (List (AV UU))) (r : S29 × Int) (h : cadastreref4_Do_dec v b = some r) : v = cadastreref4_Do_enc r := by
  unfold cadastreref4_Do_dec at h
  replace h := asT_inv h; obtain ⟨q1, rfl, h⟩ := h
  replace h := popA_inv h; obtain ⟨p2, q3, rfl, h⟩ := h
  replace h := as_s29_inv h; obtain ⟨r0, e, h⟩ := h; cases e
  replace h := popA_inv h; obtain ⟨p4, q5, rfl, h⟩ := h
  replace h := asI_inv h; obtain ⟨r1, e, h⟩ := h; cases e
  replace h := popN_inv h; obtain ⟨rfl, h⟩ := h
  cases h
  rfl
theorem cadastreref4_Do_eq (k : Nat) (op0 : Int) (a1 : S29) (b2 : S29) : bodyK UX (cadastreref4_Do_cfg k) (cadastreref4_Do_G k) Tryd.f37 [.pv (.int .i64 op0), .pv (.typ (.s29 a1)), .pv (.typ (.s29 b2))] [] cadastreref4_Do_dec = cadastreref4_Do k op0 a1 b2 := by kernel_rfl
theorem cadastreref4_Do_con (k : Nat) (op0 : Int) (a1 : S29) (b2 : S29) (r : S29 × Int) (h : cadastreref4_Do k op0 a1 b2 = some r) : Con (X := UX) Tryd.prog 37 [.pv (.int .i64 op0), .pv (.typ (.s29 a1)), .pv (.typ (.s29 b2))] [] (cadastreref4_Do_enc r) [] :=
  con_of_body xok tok Tryd.func37 cadastreref4_Do_body (cadastreref4_Do_gok k) rfl (cadastreref4_Do_cok k) (of_decide_eq_true (by kernel_rfl)) cadastreref4_Do_dec_enc ((cadastreref4_Do_eq k op0 a1 b2).trans h)
noncomputable def cadastreref4_Do_an {ρ : Type} (k : Nat) : An UX ρ := fun args bx K =>
popA args fun v1 a2 =>
asI .i64 v1 fun op0 =>
popA a2 fun v3 a4 =>
as_s29 v3 fun a1 =>
popA a4 fun v5 a6 =>
as_s29 v5 fun b2 =>
popN a6 <|
popN bx <|
(cadastreref4_Do k op0 a1 b2).bind fun r => K (cadastreref4_Do_enc r) []
theorem cadastreref4_Do_ok {ρ : Type} (k : Nat) : AnsOK Tryd.prog 37 (cadastreref4_Do_an (ρ := ρ) k) := by
  intro args bx K r h
  unfold cadastreref4_Do_an at h
  replace h := popA_inv h; obtain ⟨v1, a2, rfl, h⟩ := h
  replace h := asI_inv h; obtain ⟨op0, rfl, h⟩ := h
  replace h := popA_inv h; obtain ⟨v3, a4, rfl, h⟩ := h
  replace h := as_s29_inv h; obtain ⟨a1, rfl, h⟩ := h
  replace h := popA_inv h; obtain ⟨v5, a6, rfl, h⟩ := h
  replace h := as_s29_inv h; obtain ⟨b2, rfl, h⟩ := h
  replace h := popN_inv h; obtain ⟨rfl, h⟩ := h
  replace h := popN_inv h; obtain ⟨rfl, h⟩ := h
  replace h := bind_inv h
  obtain ⟨x, hx, h⟩ := h
  exact ⟨there_of Tryd.func37 (by kernel_rfl) cadastreref4_Do_body, _, _, h, cadastreref4_Do_con k op0 a1 b2 x hx⟩

/-! cadastre/cadastreref4.Neg -/
noncomputable def cadastreref4_Neg_code : Code := match Tryd.f31.body with | some c => c | none => .skip
theorem cadastreref4_Neg_body : Tryd.f31.body = some cadastreref4_Neg_code := by kernel_rfl
noncomputable def cadastreref4_Neg_G {ρ : Type} (k : Nat) : Ans UX ρ := gk 15 (cadastreref2_Int_an k) (gk 37 (cadastreref4_Do_an k) (gnil))
theorem cadastreref4_Neg_gok {ρ : Type} (k : Nat) : GOK Tryd.prog (cadastreref4_Neg_G (ρ := ρ) k) := gok_cons (cadastreref2_Int_ok k) (gok_cons (cadastreref4_Do_ok k) (gok_nil))
noncomputable def cadastreref4_Neg_cfg {ρ : Type} (k : Nat) : Cfg UX ρ where
  live i := (assoc [(0, [0]), (1, [1, 2])] i).getD []
  boxes i := (assoc [(0, []), (1, [1, 2])] i).getD []
  tk i := (assoc [] i).getD []
  n := 9
  labelR l := (assoc [] l).getD 0
  loops := assoc []
  labels := assoc []
  joins := assoc []
  xl i e := match e with
    | .nxt => assoc [] i
    | .ret => assoc [] i
    | .exit j => (assoc [] i).bind fun l => assoc l j
    | .goto j => (assoc [] i).bind fun l => assoc l j
noncomputable def cadastreref4_Neg_L : List Code := selI [] (loopsOf cadastreref4_Neg_code)
noncomputable def cadastreref4_Neg_J : List Code := selI [] (joinsOf cadastreref4_Neg_code)
noncomputable def cadastreref4_Neg_S : List Code := scopesOf cadastreref4_Neg_code
theorem cadastreref4_Neg_cok {ρ : Type} (k : Nat) : COK (cadastreref4_Neg_cfg (ρ := ρ) k) (cadastreref4_Neg_G k) cadastreref4_Neg_code :=
  cok_of (tl := []) (tj := []) (tb := []) rfl rfl rfl (nil_all (by kernel_rfl)) (nil_all (by kernel_rfl)) (fun p hp => by cases hp)
noncomputable def cadastreref4_Neg_enc (r : S29 × Int) : AV UU := .pv (.tup [.typ (.s29 r.1), .int .i64 r.2])
noncomputable def cadastreref4_Neg_dec (v : AV UU) (_ : List (List (AV UU))) : Option (S29 × Int) :=
asT v fun q1 =>
popA q1 fun p2 q3 =>
as_s29 (.pv p2) fun r0 =>
popA q3 fun p4 q5 =>
asI .i64 (.pv p4) fun r1 =>
popN q5 <|
some (r0, r1)
theorem cadastreref4_Neg_dec_enc (v : AV UU) (b : List (List (AV UU))) (r : S29 × Int) (h : cadastreref4_Neg_dec v b = some r) : v = cadastreref4_Neg_enc r := by
  unfold cadastreref4_Neg_dec at h
  replace h := asT_inv h; obtain ⟨q1, rfl, h⟩ := h
  replace h := popA_inv h; obtain ⟨p2, q3, rfl, h⟩ := h
  replace h := as_s29_inv h; obtain ⟨r0, e, h⟩ := h; cases e
  replace h := popA_inv h; obtain ⟨p4, q5, rfl, h⟩ := h
  replace h := asI_inv h; obtain ⟨r1, e, h⟩ := h; cases e
  replace h := popN_inv h; obtain ⟨rfl, h⟩ := h
  cases h
  rfl
theorem cadastreref4_Neg_eq (k : Nat) (v0 : S29) : bodyK UX (cadastreref4_Neg_cfg k) (cadastreref4_Neg_G k) Tryd.f31 [.pv (.typ (.s29 v0))] [] cadastreref4_Neg_dec = cadastreref4_Neg k v0 := by kernel_rfl
theorem cadastreref4_Neg_con (k : Nat) (v0 : S29) (r : S29 × Int) (h : cadastreref4_Neg k v0 = some r) : Con (X := UX) Tryd.prog 31 [.pv (.typ (.s29 v0))] [] (cadastreref4_Neg_enc r) [] :=
  con_of_body xok tok Tryd.func31 cadastreref4_Neg_body (cadastreref4_Neg_gok k) rfl (cadastreref4_Neg_cok k) (of_decide_eq_true (by kernel_rfl)) cadastreref4_Neg_dec_enc ((cadastreref4_Neg_eq k v0).trans h)
noncomputable def cadastreref4_Neg_an {ρ : Type} (k : Nat) : An UX ρ := fun args bx K =>
popA args fun v1 a2 =>
as_s29 v1 fun v0 =>
popN a2 <|
popN bx <|
(cadastreref4_Neg k v0).bind fun r => K (cadastreref4_Neg_enc r) []
theorem cadastreref4_Neg_ok {ρ : Type} (k : Nat) : AnsOK Tryd.prog 31 (cadastreref4_Neg_an (ρ := ρ) k) := by
  intro args bx K r h
  unfold cadastreref4_Neg_an at h
  replace h := popA_inv h; obtain ⟨v1, a2, rfl, h⟩ := h
  replace h := as_s29_inv h; obtain ⟨v0, rfl, h⟩ := h
  replace h := popN_inv h; obtain ⟨rfl, h⟩ := h
  replace h := popN_inv h; obtain ⟨rfl, h⟩ := h
  replace h := bind_inv h
  obtain ⟨x, hx, h⟩ := h
  exact ⟨there_of Tryd.func31 (by kernel_rfl) cadastreref4_Neg_body, _, _, h, cadastreref4_Neg_con k v0 x hx⟩

/-! cadastre/cadastreref2.Truth -/
noncomputable def cadastreref2_Truth_code : Code := match Tryd.f21.body with | some c => c | none => .skip
theorem cadastreref2_Truth_body : Tryd.f21.body = some cadastreref2_Truth_code := by kernel_rfl
noncomputable def cadastreref2_Truth_G {ρ : Type} (k : Nat) : Ans UX ρ := gnil
theorem cadastreref2_Truth_gok {ρ : Type} (k : Nat) : GOK Tryd.prog (cadastreref2_Truth_G (ρ := ρ) k) := gok_nil
noncomputable def cadastreref2_Truth_cfg {ρ : Type} (k : Nat) : Cfg UX ρ where
  live i := (assoc [(0, [0]), (1, [1]), (2, [1, 4]), (3, []), (4, [1, 4]), (5, [1]), (6, []), (7, []), (8, [])] i).getD []
  boxes i := (assoc [(0, []), (1, [1]), (2, [1]), (3, []), (4, [1]), (5, [1]), (6, []), (7, []), (8, [])] i).getD []
  tk i := (assoc [] i).getD []
  n := 12
  labelR l := (assoc [] l).getD 0
  loops := assoc []
  labels := assoc []
  joins := assoc []
  xl i e := match e with
    | .nxt => assoc [] i
    | .ret => assoc [] i
    | .exit j => (assoc [] i).bind fun l => assoc l j
    | .goto j => (assoc [] i).bind fun l => assoc l j
noncomputable def cadastreref2_Truth_L : List Code := selI [] (loopsOf cadastreref2_Truth_code)
noncomputable def cadastreref2_Truth_J : List Code := selI [] (joinsOf cadastreref2_Truth_code)
noncomputable def cadastreref2_Truth_S : List Code := scopesOf cadastreref2_Truth_code
theorem cadastreref2_Truth_cok {ρ : Type} (k : Nat) : COK (cadastreref2_Truth_cfg (ρ := ρ) k) (cadastreref2_Truth_G k) cadastreref2_Truth_code :=
  cok_of (tl := []) (tj := []) (tb := []) rfl rfl rfl (nil_all (by kernel_rfl)) (nil_all (by kernel_rfl)) (fun p hp => by cases hp)
noncomputable def cadastreref2_Truth_enc (r : Int) : AV UU := .pv (.int .i64 r)
noncomputable def cadastreref2_Truth_dec (v : AV UU) (_ : List (List (AV UU))) : Option Int :=
asI .i64 v fun r0 =>
some r0
theorem cadastreref2_Truth_dec_enc (v : AV UU) (b : List (List (AV UU))) (r : Int) (h : cadastreref2_Truth_dec v b = some r) : v = cadastreref2_Truth_enc r := by
  unfold cadastreref2_Truth_dec at h
  replace h := asI_inv h; obtain ⟨r0, rfl, h⟩ := h
  cases h
  rfl
theorem cadastreref2_Truth_eq (k : Nat) (v0 : S29) : bodyK UX (cadastreref2_Truth_cfg k) (cadastreref2_Truth_G k) Tryd.f21 [.pv (.typ (.s29 v0))] [] cadastreref2_Truth_dec = cadastreref2_Truth k v0 := by kernel_rfl
theorem cadastreref2_Truth_con (k : Nat) (v0 : S29) (r : Int) (h : cadastreref2_Truth k v0 = some r) : Con (X := UX) Tryd.prog 21 [.pv (.typ (.s29 v0))] [] (cadastreref2_Truth_enc r) [] :=
  con_of_body xok tok Tryd.func21 cadastreref2_Truth_body (cadastreref2_Truth_gok k) rfl (cadastreref2_Truth_cok k) (of_decide_eq_true (by kernel_rfl)) cadastreref2_Truth_dec_enc ((cadastreref2_Truth_eq k v0).trans h)
noncomputable def cadastreref2_Truth_an {ρ : Type} (k : Nat) : An UX ρ := fun args bx K =>
popA args fun v1 a2 =>
as_s29 v1 fun v0 =>
popN a2 <|
popN bx <|
(cadastreref2_Truth k v0).bind fun r => K (cadastreref2_Truth_enc r) []
theorem cadastreref2_Truth_ok {ρ : Type} (k : Nat) : AnsOK Tryd.prog 21 (cadastreref2_Truth_an (ρ := ρ) k) := by
  intro args bx K r h
  unfold cadastreref2_Truth_an at h
  replace h := popA_inv h; obtain ⟨v1, a2, rfl, h⟩ := h
  replace h := as_s29_inv h; obtain ⟨v0, rfl, h⟩ := h
  replace h := popN_inv h; obtain ⟨rfl, h⟩ := h
  replace h := popN_inv h; obtain ⟨rfl, h⟩ := h
  replace h := bind_inv h
  obtain ⟨x, hx, h⟩ := h
  exact ⟨there_of Tryd.func21 (by kernel_rfl) cadastreref2_Truth_body, _, _, h, cadastreref2_Truth_con k v0 x hx⟩

/-! cadastre/cadastreref2.told -/
noncomputable def cadastreref2_told_code : Code := match Tryd.f47.body with | some c => c | none => .skip
theorem cadastreref2_told_body : Tryd.f47.body = some cadastreref2_told_code := by kernel_rfl
noncomputable def cadastreref2_told_G {ρ : Type} (k : Nat) : Ans UX ρ := gk 15 (cadastreref2_Int_an k) (gnil)
theorem cadastreref2_told_gok {ρ : Type} (k : Nat) : GOK Tryd.prog (cadastreref2_told_G (ρ := ρ) k) := gok_cons (cadastreref2_Int_ok k) (gok_nil)
noncomputable def cadastreref2_told_cfg {ρ : Type} (k : Nat) : Cfg UX ρ where
  live i := (assoc [(0, [0]), (1, [0, 2]), (2, [2]), (3, [0, 2])] i).getD []
  boxes i := (assoc [(0, []), (1, [2]), (2, [2]), (3, [2])] i).getD []
  tk i := (assoc [] i).getD []
  n := 8
  labelR l := (assoc [] l).getD 0
  loops := assoc []
  labels := assoc []
  joins := assoc []
  xl i e := match e with
    | .nxt => assoc [] i
    | .ret => assoc [] i
    | .exit j => (assoc [] i).bind fun l => assoc l j
    | .goto j => (assoc [] i).bind fun l => assoc l j
noncomputable def cadastreref2_told_L : List Code := selI [] (loopsOf cadastreref2_told_code)
noncomputable def cadastreref2_told_J : List Code := selI [] (joinsOf cadastreref2_told_code)
noncomputable def cadastreref2_told_S : List Code := scopesOf cadastreref2_told_code
theorem cadastreref2_told_cok {ρ : Type} (k : Nat) : COK (cadastreref2_told_cfg (ρ := ρ) k) (cadastreref2_told_G k) cadastreref2_told_code :=
  cok_of (tl := []) (tj := []) (tb := []) rfl rfl rfl (nil_all (by kernel_rfl)) (nil_all (by kernel_rfl)) (fun p hp => by cases hp)
noncomputable def cadastreref2_told_enc (r : S29) : AV UU := .pv (.typ (.s29 r))
noncomputable def cadastreref2_told_dec (v : AV UU) (_ : List (List (AV UU))) : Option S29 :=
as_s29 v fun r0 =>
some r0
theorem cadastreref2_told_dec_enc (v : AV UU) (b : List (List (AV UU))) (r : S29) (h : cadastreref2_told_dec v b = some r) : v = cadastreref2_told_enc r := by
  unfold cadastreref2_told_dec at h
  replace h := as_s29_inv h; obtain ⟨r0, rfl, h⟩ := h
  cases h
  rfl
theorem cadastreref2_told_eq (k : Nat) (t0 : Int) : bodyK UX (cadastreref2_told_cfg k) (cadastreref2_told_G k) Tryd.f47 [.pv (.int .i64 t0)] [] cadastreref2_told_dec = cadastreref2_told k t0 := by kernel_rfl
theorem cadastreref2_told_con (k : Nat) (t0 : Int) (r : S29) (h : cadastreref2_told k t0 = some r) : Con (X := UX) Tryd.prog 47 [.pv (.int .i64 t0)] [] (cadastreref2_told_enc r) [] :=
  con_of_body xok tok Tryd.func47 cadastreref2_told_body (cadastreref2_told_gok k) rfl (cadastreref2_told_cok k) (of_decide_eq_true (by kernel_rfl)) cadastreref2_told_dec_enc ((cadastreref2_told_eq k t0).trans h)
noncomputable def cadastreref2_told_an {ρ : Type} (k : Nat) : An UX ρ := fun args bx K =>
popA args fun v1 a2 =>
asI .i64 v1 fun t0 =>
popN a2 <|
popN bx <|
(cadastreref2_told k t0).bind fun r => K (cadastreref2_told_enc r) []
theorem cadastreref2_told_ok {ρ : Type} (k : Nat) : AnsOK Tryd.prog 47 (cadastreref2_told_an (ρ := ρ) k) := by
  intro args bx K r h
  unfold cadastreref2_told_an at h
  replace h := popA_inv h; obtain ⟨v1, a2, rfl, h⟩ := h
  replace h := asI_inv h; obtain ⟨t0, rfl, h⟩ := h
  replace h := popN_inv h; obtain ⟨rfl, h⟩ := h
  replace h := popN_inv h; obtain ⟨rfl, h⟩ := h
  replace h := bind_inv h
  obtain ⟨x, hx, h⟩ := h
  exact ⟨there_of Tryd.func47 (by kernel_rfl) cadastreref2_told_body, _, _, h, cadastreref2_told_con k t0 x hx⟩

/-! cadastre/cadastreref2.Not -/
noncomputable def cadastreref2_Not_code : Code := match Tryd.f32.body with | some c => c | none => .skip
theorem cadastreref2_Not_body : Tryd.f32.body = some cadastreref2_Not_code := by kernel_rfl
noncomputable def cadastreref2_Not_G {ρ : Type} (k : Nat) : Ans UX ρ := gk 21 (cadastreref2_Truth_an k) (gk 47 (cadastreref2_told_an k) (gnil))
theorem cadastreref2_Not_gok {ρ : Type} (k : Nat) : GOK Tryd.prog (cadastreref2_Not_G (ρ := ρ) k) := gok_cons (cadastreref2_Truth_ok k) (gok_cons (cadastreref2_told_ok k) (gok_nil))
noncomputable def cadastreref2_Not_cfg {ρ : Type} (k : Nat) : Cfg UX ρ where
  live i := (assoc [(0, [0]), (1, [1, 2]), (2, [1, 2, 5]), (3, [2]), (4, [1, 2, 5]), (5, [2]), (6, [1, 2])] i).getD []
  boxes i := (assoc [(0, []), (1, [1, 2]), (2, [1, 2]), (3, [2]), (4, [1, 2]), (5, [2]), (6, [1, 2])] i).getD []
  tk i := (assoc [] i).getD []
  n := 16
  labelR l := (assoc [] l).getD 0
  loops := assoc []
  labels := assoc []
  joins := assoc []
  xl i e := match e with
    | .nxt => assoc [] i
    | .ret => assoc [] i
    | .exit j => (assoc [] i).bind fun l => assoc l j
    | .goto j => (assoc [] i).bind fun l => assoc l j
noncomputable def cadastreref2_Not_L : List Code := selI [] (loopsOf cadastreref2_Not_code)
noncomputable def cadastreref2_Not_J : List Code := selI [] (joinsOf cadastreref2_Not_code)
noncomputable def cadastreref2_Not_S : List Code := scopesOf cadastreref2_Not_code
theorem cadastreref2_Not_cok {ρ : Type} (k : Nat) : COK (cadastreref2_Not_cfg (ρ := ρ) k) (cadastreref2_Not_G k) cadastreref2_Not_code :=
  cok_of (tl := []) (tj := []) (tb := []) rfl rfl rfl (nil_all (by kernel_rfl)) (nil_all (by kernel_rfl)) (fun p hp => by cases hp)
noncomputable def cadastreref2_Not_enc (r : S29 × Int) : AV UU := .pv (.tup [.typ (.s29 r.1), .int .i64 r.2])
noncomputable def cadastreref2_Not_dec (v : AV UU) (_ : List (List (AV UU))) : Option (S29 × Int) :=
asT v fun q1 =>
popA q1 fun p2 q3 =>
as_s29 (.pv p2) fun r0 =>
popA q3 fun p4 q5 =>
asI .i64 (.pv p4) fun r1 =>
popN q5 <|
some (r0, r1)
theorem cadastreref2_Not_dec_enc (v : AV UU) (b : List (List (AV UU))) (r : S29 × Int) (h : cadastreref2_Not_dec v b = some r) : v = cadastreref2_Not_enc r := by
  unfold cadastreref2_Not_dec at h
  replace h := asT_inv h; obtain ⟨q1, rfl, h⟩ := h
  replace h := popA_inv h; obtain ⟨p2, q3, rfl, h⟩ := h
  replace h := as_s29_inv h; obtain ⟨r0, e, h⟩ := h; cases e
  replace h := popA_inv h; obtain ⟨p4, q5, rfl, h⟩ := h
  replace h := asI_inv h; obtain ⟨r1, e, h⟩ := h; cases e
  replace h := popN_inv h; obtain ⟨rfl, h⟩ := h
  cases h
  rfl
theorem cadastreref2_Not_eq (k : Nat) (v0 : S29) : bodyK UX (cadastreref2_Not_cfg k) (cadastreref2_Not_G k) Tryd.f32 [.pv (.typ (.s29 v0))] [] cadastreref2_Not_dec = cadastreref2_Not k v0 := by kernel_rfl
theorem cadastreref2_Not_con (k : Nat) (v0 : S29) (r : S29 × Int) (h : cadastreref2_Not k v0 = some r) : Con (X := UX) Tryd.prog 32 [.pv (.typ (.s29 v0))] [] (cadastreref2_Not_enc r) [] :=
  con_of_body xok tok Tryd.func32 cadastreref2_Not_body (cadastreref2_Not_gok k) rfl (cadastreref2_Not_cok k) (of_decide_eq_true (by kernel_rfl)) cadastreref2_Not_dec_enc ((cadastreref2_Not_eq k v0).trans h)
noncomputable def cadastreref2_Not_an {ρ : Type} (k : Nat) : An UX ρ := fun args bx K =>
popA args fun v1 a2 =>
as_s29 v1 fun v0 =>
popN a2 <|
popN bx <|
(cadastreref2_Not k v0).bind fun r => K (cadastreref2_Not_enc r) []
theorem cadastreref2_Not_ok {ρ : Type} (k : Nat) : AnsOK Tryd.prog 32 (cadastreref2_Not_an (ρ := ρ) k) := by
  intro args bx K r h
  unfold cadastreref2_Not_an at h
  replace h := popA_inv h; obtain ⟨v1, a2, rfl, h⟩ := h
  replace h := as_s29_inv h; obtain ⟨v0, rfl, h⟩ := h
  replace h := popN_inv h; obtain ⟨rfl, h⟩ := h
  replace h := popN_inv h; obtain ⟨rfl, h⟩ := h
  replace h := bind_inv h
  obtain ⟨x, hx, h⟩ := h
  exact ⟨there_of Tryd.func32 (by kernel_rfl) cadastreref2_Not_body, _, _, h, cadastreref2_Not_con k v0 x hx⟩

noncomputable def cadastreref4_Digits_code : Code := match Tryd.f63.body with | some c => c | none => .skip
theorem cadastreref4_Digits_body : Tryd.f63.body = some cadastreref4_Digits_code := by kernel_rfl
noncomputable def cadastreref4_Digits_enc (r : ByteArray) : AV UU := .pv (.str r)
structure cadastreref4_Digits_R_ok (rc : cadastreref4_Digits_R) : Prop where
  cadastreref4_Digits : ∀ (n0 : Int) (r : ByteArray), rc.cadastreref4_Digits n0 = some r → Con (X := UX) Tryd.prog 63 [.pv (.int .i64 n0)] [] (cadastreref4_Digits_enc r) []
noncomputable def cadastreref4_Digits_ran {ρ : Type} (rc : cadastreref4_Digits_R) : An UX ρ := fun args bx K =>
popA args fun v1 a2 =>
asI .i64 v1 fun n0 =>
popN a2 <|
popN bx <|
(rc.cadastreref4_Digits n0).bind fun r => K (cadastreref4_Digits_enc r) []
theorem cadastreref4_Digits_rok {ρ : Type} (rc : cadastreref4_Digits_R) (hrc : cadastreref4_Digits_R_ok rc) : AnsOK Tryd.prog 63 (cadastreref4_Digits_ran (ρ := ρ) rc) := by
  intro args bx K r h
  unfold cadastreref4_Digits_ran at h
  replace h := popA_inv h; obtain ⟨v1, a2, rfl, h⟩ := h
  replace h := asI_inv h; obtain ⟨n0, rfl, h⟩ := h
  replace h := popN_inv h; obtain ⟨rfl, h⟩ := h
  replace h := popN_inv h; obtain ⟨rfl, h⟩ := h
  replace h := bind_inv h
  obtain ⟨x, hx, h⟩ := h
  exact ⟨there_of Tryd.func63 (by kernel_rfl) cadastreref4_Digits_body, _, _, h, hrc.cadastreref4_Digits n0 x hx⟩
/-! cadastre/cadastreref4.Digits -/
noncomputable def cadastreref4_Digits_G {ρ : Type} (k : Nat) (rc : cadastreref4_Digits_R) : Ans UX ρ := gk 63 (cadastreref4_Digits_ran rc) (gnil)
theorem cadastreref4_Digits_gok {ρ : Type} (k : Nat) (rc : cadastreref4_Digits_R) (hrc : cadastreref4_Digits_R_ok rc) : GOK Tryd.prog (cadastreref4_Digits_G (ρ := ρ) k rc) := gok_cons (cadastreref4_Digits_rok rc hrc) (gok_nil)
noncomputable def cadastreref4_Digits_cfg {ρ : Type} (k : Nat) (rc : cadastreref4_Digits_R) : Cfg UX ρ where
  live i := (assoc [(0, [0]), (1, [0]), (2, []), (3, [0]), (4, [0]), (5, [0]), (6, [0]), (7, [0])] i).getD []
  boxes i := (assoc [(0, []), (1, []), (2, []), (3, []), (4, []), (5, []), (6, []), (7, [])] i).getD []
  tk i := (assoc [] i).getD []
  n := 25
  labelR l := (assoc [] l).getD 0
  loops := assoc []
  labels := assoc []
  joins := assoc []
  xl i e := match e with
    | .nxt => assoc [] i
    | .ret => assoc [] i
    | .exit j => (assoc [] i).bind fun l => assoc l j
    | .goto j => (assoc [] i).bind fun l => assoc l j
noncomputable def cadastreref4_Digits_L : List Code := selI [] (loopsOf cadastreref4_Digits_code)
noncomputable def cadastreref4_Digits_J : List Code := selI [] (joinsOf cadastreref4_Digits_code)
noncomputable def cadastreref4_Digits_S : List Code := scopesOf cadastreref4_Digits_code
theorem cadastreref4_Digits_cok {ρ : Type} (k : Nat) (rc : cadastreref4_Digits_R) : COK (cadastreref4_Digits_cfg (ρ := ρ) k rc) (cadastreref4_Digits_G k rc) cadastreref4_Digits_code :=
  cok_of (tl := []) (tj := []) (tb := []) rfl rfl rfl (nil_all (by kernel_rfl)) (nil_all (by kernel_rfl)) (fun p hp => by cases hp)
noncomputable def cadastreref4_Digits_dec (v : AV UU) (_ : List (List (AV UU))) : Option ByteArray :=
asS v fun r0 =>
some r0
theorem cadastreref4_Digits_dec_enc (v : AV UU) (b : List (List (AV UU))) (r : ByteArray) (h : cadastreref4_Digits_dec v b = some r) : v = cadastreref4_Digits_enc r := by
  unfold cadastreref4_Digits_dec at h
  replace h := asS_inv h; obtain ⟨r0, rfl, h⟩ := h
  cases h
  rfl
theorem cadastreref4_Digits_eq (k : Nat) (rc : cadastreref4_Digits_R) (n0 : Int) : bodyK UX (cadastreref4_Digits_cfg k rc) (cadastreref4_Digits_G k rc) Tryd.f63 [.pv (.int .i64 n0)] [] cadastreref4_Digits_dec = cadastreref4_Digits_r k rc n0 := by kernel_rfl
theorem cadastreref4_Digits_con_r (k : Nat) (rc : cadastreref4_Digits_R) (hrc : cadastreref4_Digits_R_ok rc) (n0 : Int) (r : ByteArray) (h : cadastreref4_Digits_r k rc n0 = some r) : Con (X := UX) Tryd.prog 63 [.pv (.int .i64 n0)] [] (cadastreref4_Digits_enc r) [] :=
  con_of_body xok tok Tryd.func63 cadastreref4_Digits_body (cadastreref4_Digits_gok k rc hrc) rfl (cadastreref4_Digits_cok k rc) (of_decide_eq_true (by kernel_rfl)) cadastreref4_Digits_dec_enc ((cadastreref4_Digits_eq k rc n0).trans h)
theorem cadastreref4_Digits_R_itok (k : Nat) : ∀ d, cadastreref4_Digits_R_ok (cadastreref4_Digits_R_it k d)
  | 0 => ⟨fun n0 r h => by have e : (none : Option ByteArray) = some r := h; cases e⟩
  | d + 1 => ⟨fun n0 r h => cadastreref4_Digits_con_r k (cadastreref4_Digits_R_it k d) (cadastreref4_Digits_R_itok k d) n0 r h⟩
theorem cadastreref4_Digits_con (k : Nat) (n0 : Int) (r : ByteArray) (h : cadastreref4_Digits k n0 = some r) : Con (X := UX) Tryd.prog 63 [.pv (.int .i64 n0)] [] (cadastreref4_Digits_enc r) [] := (cadastreref4_Digits_R_itok k k).cadastreref4_Digits n0 r h
noncomputable def cadastreref4_Digits_an {ρ : Type} (k : Nat) : An UX ρ := fun args bx K =>
popA args fun v1 a2 =>
asI .i64 v1 fun n0 =>
popN a2 <|
popN bx <|
(cadastreref4_Digits k n0).bind fun r => K (cadastreref4_Digits_enc r) []
theorem cadastreref4_Digits_ok {ρ : Type} (k : Nat) : AnsOK Tryd.prog 63 (cadastreref4_Digits_an (ρ := ρ) k) := by
  intro args bx K r h
  unfold cadastreref4_Digits_an at h
  replace h := popA_inv h; obtain ⟨v1, a2, rfl, h⟩ := h
  replace h := asI_inv h; obtain ⟨n0, rfl, h⟩ := h
  replace h := popN_inv h; obtain ⟨rfl, h⟩ := h
  replace h := popN_inv h; obtain ⟨rfl, h⟩ := h
  replace h := bind_inv h
  obtain ⟨x, hx, h⟩ := h
  exact ⟨there_of Tryd.func63 (by kernel_rfl) cadastreref4_Digits_body, _, _, h, cadastreref4_Digits_con k n0 x hx⟩

/-! cadastre/cadastreref4.text -/
noncomputable def cadastreref4_text_code : Code := match Tryd.f49.body with | some c => c | none => .skip
theorem cadastreref4_text_body : Tryd.f49.body = some cadastreref4_text_code := by kernel_rfl
noncomputable def cadastreref4_text_G {ρ : Type} (k : Nat) : Ans UX ρ := gnil
theorem cadastreref4_text_gok {ρ : Type} (k : Nat) : GOK Tryd.prog (cadastreref4_text_G (ρ := ρ) k) := gok_nil
noncomputable def cadastreref4_text_cfg {ρ : Type} (k : Nat) : Cfg UX ρ where
  live i := (assoc [(0, [0]), (1, [0, 2])] i).getD []
  boxes i := (assoc [(0, []), (1, [2])] i).getD []
  tk i := (assoc [] i).getD []
  n := 5
  labelR l := (assoc [] l).getD 0
  loops := assoc []
  labels := assoc []
  joins := assoc []
  xl i e := match e with
    | .nxt => assoc [] i
    | .ret => assoc [] i
    | .exit j => (assoc [] i).bind fun l => assoc l j
    | .goto j => (assoc [] i).bind fun l => assoc l j
noncomputable def cadastreref4_text_L : List Code := selI [] (loopsOf cadastreref4_text_code)
noncomputable def cadastreref4_text_J : List Code := selI [] (joinsOf cadastreref4_text_code)
noncomputable def cadastreref4_text_S : List Code := scopesOf cadastreref4_text_code
theorem cadastreref4_text_cok {ρ : Type} (k : Nat) : COK (cadastreref4_text_cfg (ρ := ρ) k) (cadastreref4_text_G k) cadastreref4_text_code :=
  cok_of (tl := []) (tj := []) (tb := []) rfl rfl rfl (nil_all (by kernel_rfl)) (nil_all (by kernel_rfl)) (fun p hp => by cases hp)
noncomputable def cadastreref4_text_enc (r : S29) : AV UU := .pv (.typ (.s29 r))
noncomputable def cadastreref4_text_dec (v : AV UU) (_ : List (List (AV UU))) : Option S29 :=
as_s29 v fun r0 =>
some r0
theorem cadastreref4_text_dec_enc (v : AV UU) (b : List (List (AV UU))) (r : S29) (h : cadastreref4_text_dec v b = some r) : v = cadastreref4_text_enc r := by
  unfold cadastreref4_text_dec at h
  replace h := as_s29_inv h; obtain ⟨r0, rfl, h⟩ := h
  cases h
  rfl
theorem cadastreref4_text_eq (k : Nat) (s0 : ByteArray) : bodyK UX (cadastreref4_text_cfg k) (cadastreref4_text_G k) Tryd.f49 [.pv (.str s0)] [] cadastreref4_text_dec = cadastreref4_text k s0 := by kernel_rfl
theorem cadastreref4_text_con (k : Nat) (s0 : ByteArray) (r : S29) (h : cadastreref4_text k s0 = some r) : Con (X := UX) Tryd.prog 49 [.pv (.str s0)] [] (cadastreref4_text_enc r) [] :=
  con_of_body xok tok Tryd.func49 cadastreref4_text_body (cadastreref4_text_gok k) rfl (cadastreref4_text_cok k) (of_decide_eq_true (by kernel_rfl)) cadastreref4_text_dec_enc ((cadastreref4_text_eq k s0).trans h)
noncomputable def cadastreref4_text_an {ρ : Type} (k : Nat) : An UX ρ := fun args bx K =>
popA args fun v1 a2 =>
asS v1 fun s0 =>
popN a2 <|
popN bx <|
(cadastreref4_text k s0).bind fun r => K (cadastreref4_text_enc r) []
theorem cadastreref4_text_ok {ρ : Type} (k : Nat) : AnsOK Tryd.prog 49 (cadastreref4_text_an (ρ := ρ) k) := by
  intro args bx K r h
  unfold cadastreref4_text_an at h
  replace h := popA_inv h; obtain ⟨v1, a2, rfl, h⟩ := h
  replace h := asS_inv h; obtain ⟨s0, rfl, h⟩ := h
  replace h := popN_inv h; obtain ⟨rfl, h⟩ := h
  replace h := popN_inv h; obtain ⟨rfl, h⟩ := h
  replace h := bind_inv h
  obtain ⟨x, hx, h⟩ := h
  exact ⟨there_of Tryd.func49 (by kernel_rfl) cadastreref4_text_body, _, _, h, cadastreref4_text_con k s0 x hx⟩

/-! cadastre/cadastreref4.Text -/
noncomputable def cadastreref4_Text_code : Code := match Tryd.f48.body with | some c => c | none => .skip
theorem cadastreref4_Text_body : Tryd.f48.body = some cadastreref4_Text_code := by kernel_rfl
noncomputable def cadastreref4_Text_G {ρ : Type} (k : Nat) : Ans UX ρ := gk 63 (cadastreref4_Digits_an k) (gk 49 (cadastreref4_text_an k) (gnil))
theorem cadastreref4_Text_gok {ρ : Type} (k : Nat) : GOK Tryd.prog (cadastreref4_Text_G (ρ := ρ) k) := gok_cons (cadastreref4_Digits_ok k) (gok_cons (cadastreref4_text_ok k) (gok_nil))
noncomputable def cadastreref4_Text_cfg {ρ : Type} (k : Nat) : Cfg UX ρ where
  live i := (assoc [(0, [0]), (1, [1, 2]), (2, [1, 2]), (3, [1, 2])] i).getD []
  boxes i := (assoc [(0, []), (1, [1, 2]), (2, [1, 2]), (3, [1, 2])] i).getD []
  tk i := (assoc [] i).getD []
  n := 11
  labelR l := (assoc [] l).getD 0
  loops := assoc []
  labels := assoc []
  joins := assoc []
  xl i e := match e with
    | .nxt => assoc [] i
    | .ret => assoc [] i
    | .exit j => (assoc [] i).bind fun l => assoc l j
    | .goto j => (assoc [] i).bind fun l => assoc l j
noncomputable def cadastreref4_Text_L : List Code := selI [] (loopsOf cadastreref4_Text_code)
noncomputable def cadastreref4_Text_J : List Code := selI [] (joinsOf cadastreref4_Text_code)
noncomputable def cadastreref4_Text_S : List Code := scopesOf cadastreref4_Text_code
theorem cadastreref4_Text_cok {ρ : Type} (k : Nat) : COK (cadastreref4_Text_cfg (ρ := ρ) k) (cadastreref4_Text_G k) cadastreref4_Text_code :=
  cok_of (tl := []) (tj := []) (tb := []) rfl rfl rfl (nil_all (by kernel_rfl)) (nil_all (by kernel_rfl)) (fun p hp => by cases hp)
noncomputable def cadastreref4_Text_enc (r : S29) : AV UU := .pv (.typ (.s29 r))
noncomputable def cadastreref4_Text_dec (v : AV UU) (_ : List (List (AV UU))) : Option S29 :=
as_s29 v fun r0 =>
some r0
theorem cadastreref4_Text_dec_enc (v : AV UU) (b : List (List (AV UU))) (r : S29) (h : cadastreref4_Text_dec v b = some r) : v = cadastreref4_Text_enc r := by
  unfold cadastreref4_Text_dec at h
  replace h := as_s29_inv h; obtain ⟨r0, rfl, h⟩ := h
  cases h
  rfl
theorem cadastreref4_Text_eq (k : Nat) (v0 : S29) : bodyK UX (cadastreref4_Text_cfg k) (cadastreref4_Text_G k) Tryd.f48 [.pv (.typ (.s29 v0))] [] cadastreref4_Text_dec = cadastreref4_Text k v0 := by kernel_rfl
theorem cadastreref4_Text_con (k : Nat) (v0 : S29) (r : S29) (h : cadastreref4_Text k v0 = some r) : Con (X := UX) Tryd.prog 48 [.pv (.typ (.s29 v0))] [] (cadastreref4_Text_enc r) [] :=
  con_of_body xok tok Tryd.func48 cadastreref4_Text_body (cadastreref4_Text_gok k) rfl (cadastreref4_Text_cok k) (of_decide_eq_true (by kernel_rfl)) cadastreref4_Text_dec_enc ((cadastreref4_Text_eq k v0).trans h)
noncomputable def cadastreref4_Text_an {ρ : Type} (k : Nat) : An UX ρ := fun args bx K =>
popA args fun v1 a2 =>
as_s29 v1 fun v0 =>
popN a2 <|
popN bx <|
(cadastreref4_Text k v0).bind fun r => K (cadastreref4_Text_enc r) []
theorem cadastreref4_Text_ok {ρ : Type} (k : Nat) : AnsOK Tryd.prog 48 (cadastreref4_Text_an (ρ := ρ) k) := by
  intro args bx K r h
  unfold cadastreref4_Text_an at h
  replace h := popA_inv h; obtain ⟨v1, a2, rfl, h⟩ := h
  replace h := as_s29_inv h; obtain ⟨v0, rfl, h⟩ := h
  replace h := popN_inv h; obtain ⟨rfl, h⟩ := h
  replace h := popN_inv h; obtain ⟨rfl, h⟩ := h
  replace h := bind_inv h
  obtain ⟨x, hx, h⟩ := h
  exact ⟨there_of Tryd.func48 (by kernel_rfl) cadastreref4_Text_body, _, _, h, cadastreref4_Text_con k v0 x hx⟩

/-! cadastre/cadastreref4.Length -/
noncomputable def cadastreref4_Length_code : Code := match Tryd.f33.body with | some c => c | none => .skip
theorem cadastreref4_Length_body : Tryd.f33.body = some cadastreref4_Length_code := by kernel_rfl
noncomputable def cadastreref4_Length_G {ρ : Type} (k : Nat) : Ans UX ρ := gk 48 (cadastreref4_Text_an k) (gk 15 (cadastreref2_Int_an k) (gnil))
theorem cadastreref4_Length_gok {ρ : Type} (k : Nat) : GOK Tryd.prog (cadastreref4_Length_G (ρ := ρ) k) := gok_cons (cadastreref4_Text_ok k) (gok_cons (cadastreref2_Int_ok k) (gok_nil))
noncomputable def cadastreref4_Length_cfg {ρ : Type} (k : Nat) : Cfg UX ρ where
  live i := (assoc [(0, [0]), (1, [1, 2]), (2, [1, 2]), (3, [1, 2])] i).getD []
  boxes i := (assoc [(0, []), (1, [1, 2]), (2, [1, 2]), (3, [1, 2])] i).getD []
  tk i := (assoc [] i).getD []
  n := 12
  labelR l := (assoc [] l).getD 0
  loops := assoc []
  labels := assoc []
  joins := assoc []
  xl i e := match e with
    | .nxt => assoc [] i
    | .ret => assoc [] i
    | .exit j => (assoc [] i).bind fun l => assoc l j
    | .goto j => (assoc [] i).bind fun l => assoc l j
noncomputable def cadastreref4_Length_L : List Code := selI [] (loopsOf cadastreref4_Length_code)
noncomputable def cadastreref4_Length_J : List Code := selI [] (joinsOf cadastreref4_Length_code)
noncomputable def cadastreref4_Length_S : List Code := scopesOf cadastreref4_Length_code
theorem cadastreref4_Length_cok {ρ : Type} (k : Nat) : COK (cadastreref4_Length_cfg (ρ := ρ) k) (cadastreref4_Length_G k) cadastreref4_Length_code :=
  cok_of (tl := []) (tj := []) (tb := []) rfl rfl rfl (nil_all (by kernel_rfl)) (nil_all (by kernel_rfl)) (fun p hp => by cases hp)
noncomputable def cadastreref4_Length_enc (r : S29) : AV UU := .pv (.typ (.s29 r))
noncomputable def cadastreref4_Length_dec (v : AV UU) (_ : List (List (AV UU))) : Option S29 :=
as_s29 v fun r0 =>
some r0
theorem cadastreref4_Length_dec_enc (v : AV UU) (b : List (List (AV UU))) (r : S29) (h : cadastreref4_Length_dec v b = some r) : v = cadastreref4_Length_enc r := by
  unfold cadastreref4_Length_dec at h
  replace h := as_s29_inv h; obtain ⟨r0, rfl, h⟩ := h
  cases h
  rfl
theorem cadastreref4_Length_eq (k : Nat) (v0 : S29) : bodyK UX (cadastreref4_Length_cfg k) (cadastreref4_Length_G k) Tryd.f33 [.pv (.typ (.s29 v0))] [] cadastreref4_Length_dec = cadastreref4_Length k v0 := by kernel_rfl
theorem cadastreref4_Length_con (k : Nat) (v0 : S29) (r : S29) (h : cadastreref4_Length k v0 = some r) : Con (X := UX) Tryd.prog 33 [.pv (.typ (.s29 v0))] [] (cadastreref4_Length_enc r) [] :=
  con_of_body xok tok Tryd.func33 cadastreref4_Length_body (cadastreref4_Length_gok k) rfl (cadastreref4_Length_cok k) (of_decide_eq_true (by kernel_rfl)) cadastreref4_Length_dec_enc ((cadastreref4_Length_eq k v0).trans h)
noncomputable def cadastreref4_Length_an {ρ : Type} (k : Nat) : An UX ρ := fun args bx K =>
popA args fun v1 a2 =>
as_s29 v1 fun v0 =>
popN a2 <|
popN bx <|
(cadastreref4_Length k v0).bind fun r => K (cadastreref4_Length_enc r) []
theorem cadastreref4_Length_ok {ρ : Type} (k : Nat) : AnsOK Tryd.prog 33 (cadastreref4_Length_an (ρ := ρ) k) := by
  intro args bx K r h
  unfold cadastreref4_Length_an at h
  replace h := popA_inv h; obtain ⟨v1, a2, rfl, h⟩ := h
  replace h := as_s29_inv h; obtain ⟨v0, rfl, h⟩ := h
  replace h := popN_inv h; obtain ⟨rfl, h⟩ := h
  replace h := popN_inv h; obtain ⟨rfl, h⟩ := h
  replace h := bind_inv h
  obtain ⟨x, hx, h⟩ := h
  exact ⟨there_of Tryd.func33 (by kernel_rfl) cadastreref4_Length_body, _, _, h, cadastreref4_Length_con k v0 x hx⟩

/-! cadastre/cadastreref4.Typeof -/
noncomputable def cadastreref4_Typeof_code : Code := match Tryd.f34.body with | some c => c | none => .skip
theorem cadastreref4_Typeof_body : Tryd.f34.body = some cadastreref4_Typeof_code := by kernel_rfl
noncomputable def cadastreref4_Typeof_G {ρ : Type} (k : Nat) : Ans UX ρ := gk 49 (cadastreref4_text_an k) (gnil)
theorem cadastreref4_Typeof_gok {ρ : Type} (k : Nat) : GOK Tryd.prog (cadastreref4_Typeof_G (ρ := ρ) k) := gok_cons (cadastreref4_text_ok k) (gok_nil)
noncomputable def cadastreref4_Typeof_cfg {ρ : Type} (k : Nat) : Cfg UX ρ where
  live i := (assoc [(0, [0]), (1, [1, 2]), (2, [2, 4]), (3, [2]), (4, [2, 4]), (5, [2]), (6, [2, 4]), (7, [2]), (8, [2])] i).getD []
  boxes i := (assoc [(0, []), (1, [1, 2]), (2, [2]), (3, [2]), (4, [2]), (5, [2]), (6, [2]), (7, [2]), (8, [2])] i).getD []
  tk i := (assoc [] i).getD []
  n := 15
  labelR l := (assoc [] l).getD 0
  loops := assoc []
  labels := assoc []
  joins := assoc []
  xl i e := match e with
    | .nxt => assoc [] i
    | .ret => assoc [] i
    | .exit j => (assoc [] i).bind fun l => assoc l j
    | .goto j => (assoc [] i).bind fun l => assoc l j
noncomputable def cadastreref4_Typeof_L : List Code := selI [] (loopsOf cadastreref4_Typeof_code)
noncomputable def cadastreref4_Typeof_J : List Code := selI [] (joinsOf cadastreref4_Typeof_code)
noncomputable def cadastreref4_Typeof_S : List Code := scopesOf cadastreref4_Typeof_code
theorem cadastreref4_Typeof_cok {ρ : Type} (k : Nat) : COK (cadastreref4_Typeof_cfg (ρ := ρ) k) (cadastreref4_Typeof_G k) cadastreref4_Typeof_code :=
  cok_of (tl := []) (tj := []) (tb := []) rfl rfl rfl (nil_all (by kernel_rfl)) (nil_all (by kernel_rfl)) (fun p hp => by cases hp)
noncomputable def cadastreref4_Typeof_enc (r : S29) : AV UU := .pv (.typ (.s29 r))
noncomputable def cadastreref4_Typeof_dec (v : AV UU) (_ : List (List (AV UU))) : Option S29 :=
as_s29 v fun r0 =>
some r0
theorem cadastreref4_Typeof_dec_enc (v : AV UU) (b : List (List (AV UU))) (r : S29) (h : cadastreref4_Typeof_dec v b = some r) : v = cadastreref4_Typeof_enc r := by
  unfold cadastreref4_Typeof_dec at h
  replace h := as_s29_inv h; obtain ⟨r0, rfl, h⟩ := h
  cases h
  rfl
theorem cadastreref4_Typeof_eq (k : Nat) (v0 : S29) : bodyK UX (cadastreref4_Typeof_cfg k) (cadastreref4_Typeof_G k) Tryd.f34 [.pv (.typ (.s29 v0))] [] cadastreref4_Typeof_dec = cadastreref4_Typeof k v0 := by kernel_rfl
theorem cadastreref4_Typeof_con (k : Nat) (v0 : S29) (r : S29) (h : cadastreref4_Typeof k v0 = some r) : Con (X := UX) Tryd.prog 34 [.pv (.typ (.s29 v0))] [] (cadastreref4_Typeof_enc r) [] :=
  con_of_body xok tok Tryd.func34 cadastreref4_Typeof_body (cadastreref4_Typeof_gok k) rfl (cadastreref4_Typeof_cok k) (of_decide_eq_true (by kernel_rfl)) cadastreref4_Typeof_dec_enc ((cadastreref4_Typeof_eq k v0).trans h)
noncomputable def cadastreref4_Typeof_an {ρ : Type} (k : Nat) : An UX ρ := fun args bx K =>
popA args fun v1 a2 =>
as_s29 v1 fun v0 =>
popN a2 <|
popN bx <|
(cadastreref4_Typeof k v0).bind fun r => K (cadastreref4_Typeof_enc r) []
theorem cadastreref4_Typeof_ok {ρ : Type} (k : Nat) : AnsOK Tryd.prog 34 (cadastreref4_Typeof_an (ρ := ρ) k) := by
  intro args bx K r h
  unfold cadastreref4_Typeof_an at h
  replace h := popA_inv h; obtain ⟨v1, a2, rfl, h⟩ := h
  replace h := as_s29_inv h; obtain ⟨v0, rfl, h⟩ := h
  replace h := popN_inv h; obtain ⟨rfl, h⟩ := h
  replace h := popN_inv h; obtain ⟨rfl, h⟩ := h
  replace h := bind_inv h
  obtain ⟨x, hx, h⟩ := h
  exact ⟨there_of Tryd.func34 (by kernel_rfl) cadastreref4_Typeof_body, _, _, h, cadastreref4_Typeof_con k v0 x hx⟩

/-! cadastre/cadastreref2.Bool -/
noncomputable def cadastreref2_Bool_code : Code := match Tryd.f50.body with | some c => c | none => .skip
theorem cadastreref2_Bool_body : Tryd.f50.body = some cadastreref2_Bool_code := by kernel_rfl
noncomputable def cadastreref2_Bool_G {ρ : Type} (k : Nat) : Ans UX ρ := gk 15 (cadastreref2_Int_an k) (gnil)
theorem cadastreref2_Bool_gok {ρ : Type} (k : Nat) : GOK Tryd.prog (cadastreref2_Bool_G (ρ := ρ) k) := gok_cons (cadastreref2_Int_ok k) (gok_nil)
noncomputable def cadastreref2_Bool_cfg {ρ : Type} (k : Nat) : Cfg UX ρ where
  live i := (assoc [(0, [0]), (1, [0, 2]), (2, [2]), (3, [2])] i).getD []
  boxes i := (assoc [(0, []), (1, [2]), (2, [2]), (3, [2])] i).getD []
  tk i := (assoc [] i).getD []
  n := 6
  labelR l := (assoc [] l).getD 0
  loops := assoc []
  labels := assoc []
  joins := assoc []
  xl i e := match e with
    | .nxt => assoc [] i
    | .ret => assoc [] i
    | .exit j => (assoc [] i).bind fun l => assoc l j
    | .goto j => (assoc [] i).bind fun l => assoc l j
noncomputable def cadastreref2_Bool_L : List Code := selI [] (loopsOf cadastreref2_Bool_code)
noncomputable def cadastreref2_Bool_J : List Code := selI [] (joinsOf cadastreref2_Bool_code)
noncomputable def cadastreref2_Bool_S : List Code := scopesOf cadastreref2_Bool_code
theorem cadastreref2_Bool_cok {ρ : Type} (k : Nat) : COK (cadastreref2_Bool_cfg (ρ := ρ) k) (cadastreref2_Bool_G k) cadastreref2_Bool_code :=
  cok_of (tl := []) (tj := []) (tb := []) rfl rfl rfl (nil_all (by kernel_rfl)) (nil_all (by kernel_rfl)) (fun p hp => by cases hp)
noncomputable def cadastreref2_Bool_enc (r : S29) : AV UU := .pv (.typ (.s29 r))
noncomputable def cadastreref2_Bool_dec (v : AV UU) (_ : List (List (AV UU))) : Option S29 :=
as_s29 v fun r0 =>
some r0
theorem cadastreref2_Bool_dec_enc (v : AV UU) (b : List (List (AV UU))) (r : S29) (h : cadastreref2_Bool_dec v b = some r) : v = cadastreref2_Bool_enc r := by
  unfold cadastreref2_Bool_dec at h
  replace h := as_s29_inv h; obtain ⟨r0, rfl, h⟩ := h
  cases h
  rfl
theorem cadastreref2_Bool_eq (k : Nat) (b0 : Bool) : bodyK UX (cadastreref2_Bool_cfg k) (cadastreref2_Bool_G k) Tryd.f50 [.pv (.bool b0)] [] cadastreref2_Bool_dec = cadastreref2_Bool k b0 := by kernel_rfl
theorem cadastreref2_Bool_con (k : Nat) (b0 : Bool) (r : S29) (h : cadastreref2_Bool k b0 = some r) : Con (X := UX) Tryd.prog 50 [.pv (.bool b0)] [] (cadastreref2_Bool_enc r) [] :=
  con_of_body xok tok Tryd.func50 cadastreref2_Bool_body (cadastreref2_Bool_gok k) rfl (cadastreref2_Bool_cok k) (of_decide_eq_true (by kernel_rfl)) cadastreref2_Bool_dec_enc ((cadastreref2_Bool_eq k b0).trans h)
noncomputable def cadastreref2_Bool_an {ρ : Type} (k : Nat) : An UX ρ := fun args bx K =>
popA args fun v1 a2 =>
asB v1 fun b0 =>
popN a2 <|
popN bx <|
(cadastreref2_Bool k b0).bind fun r => K (cadastreref2_Bool_enc r) []
theorem cadastreref2_Bool_ok {ρ : Type} (k : Nat) : AnsOK Tryd.prog 50 (cadastreref2_Bool_an (ρ := ρ) k) := by
  intro args bx K r h
  unfold cadastreref2_Bool_an at h
  replace h := popA_inv h; obtain ⟨v1, a2, rfl, h⟩ := h
  replace h := asB_inv h; obtain ⟨b0, rfl, h⟩ := h
  replace h := popN_inv h; obtain ⟨rfl, h⟩ := h
  replace h := popN_inv h; obtain ⟨rfl, h⟩ := h
  replace h := bind_inv h
  obtain ⟨x, hx, h⟩ := h
  exact ⟨there_of Tryd.func50 (by kernel_rfl) cadastreref2_Bool_body, _, _, h, cadastreref2_Bool_con k b0 x hx⟩
end Go.Proofs.YtjkgphpmdkbpfaaDoor.V
