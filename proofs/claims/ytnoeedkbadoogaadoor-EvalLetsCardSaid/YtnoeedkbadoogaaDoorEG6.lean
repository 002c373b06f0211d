/-
  What the program's functions answer: the printed functions' answers.
-/
import Derived.Test.YtnoeedkbadoogaaDoorEG5
namespace Go.Proofs.YtnoeedkbadoogaaDoor.E
open Go Go.AX
/-! cadastre/logic.Test -/
noncomputable def logic_Test_code : Code := match Tryd.f72.body with | some c => c | none => .skip
theorem logic_Test_body : Tryd.f72.body = some logic_Test_code := by kernel_rfl
noncomputable def logic_Test_G {ρ : Type} (k : Nat) : Ans UX ρ := gk 38 (value_All_an k) (gk 102 (value_Order_an k) (gk 100 (logic_said_an k) (gnil)))
theorem logic_Test_gok {ρ : Type} (k : Nat) : GOK Tryd.prog (logic_Test_G (ρ := ρ) k) := gok_cons (value_All_ok k) (gok_cons (value_Order_ok k) (gok_cons (logic_said_ok k) (gok_nil)))
noncomputable def logic_Test_j5_s {ρ : Type} (k : Nat) : Run UX ρ := fun s K =>
popS 0 s.env fun v1 e2 =>
asI .i64 v1 fun op0 =>
popS 4 e2 fun v3 e4 =>
asP 4 0 v3 <|
popS 5 e4 fun v5 e6 =>
asP 5 0 v5 <|
popS 6 e6 fun v7 e8 =>
asP 6 0 v7 <|
popN e8 <|
popB 4 s.hp fun c9 e10 =>
popA c9 fun v11 c12 =>
asI .i64 v11 fun z13 =>
popA c12 fun v14 c15 =>
asI .i64 v14 fun z16 =>
popA c15 fun v17 c18 =>
asS v17 fun z19 =>
popN c18 <|
popB 5 e10 fun c20 e21 =>
popA c20 fun v22 c23 =>
asI .i64 v22 fun z24 =>
popA c23 fun v25 c26 =>
asI .i64 v25 fun z27 =>
popA c26 fun v28 c29 =>
asS v28 fun z30 =>
popN c29 <|
popB 6 e21 fun c31 e32 =>
popA c31 fun v33 c34 =>
asI .i64 v33 fun z35 =>
popA c34 fun v36 c37 =>
asI .i64 v36 fun z38 =>
popA c37 fun v39 c40 =>
asS v39 fun z41 =>
popN c40 <|
popN e32 <|
logic_Test_j5 k (fun t7 t6 => K .ret ⟨[(6, .ptr 6 0), (7, .pv (.int .i64 t7))], [(6, [.pv (.int .i64 t6.f0), .pv (.int .i64 t6.f1), .pv (.str t6.f2)])]⟩) op0 (⟨z13, z16, z19⟩ : S23) (⟨z24, z27, z30⟩ : S23) (⟨z35, z38, z41⟩ : S23)
noncomputable def logic_Test_j3_s {ρ : Type} (k : Nat) : Run UX ρ := fun s K =>
popS 0 s.env fun v1 e2 =>
asI .i64 v1 fun op0 =>
popS 4 e2 fun v3 e4 =>
asP 4 0 v3 <|
popS 5 e4 fun v5 e6 =>
asP 5 0 v5 <|
popS 6 e6 fun v7 e8 =>
asP 6 0 v7 <|
popN e8 <|
popB 4 s.hp fun c9 e10 =>
popA c9 fun v11 c12 =>
asI .i64 v11 fun z13 =>
popA c12 fun v14 c15 =>
asI .i64 v14 fun z16 =>
popA c15 fun v17 c18 =>
asS v17 fun z19 =>
popN c18 <|
popB 5 e10 fun c20 e21 =>
popA c20 fun v22 c23 =>
asI .i64 v22 fun z24 =>
popA c23 fun v25 c26 =>
asI .i64 v25 fun z27 =>
popA c26 fun v28 c29 =>
asS v28 fun z30 =>
popN c29 <|
popB 6 e21 fun c31 e32 =>
popA c31 fun v33 c34 =>
asI .i64 v33 fun z35 =>
popA c34 fun v36 c37 =>
asI .i64 v36 fun z38 =>
popA c37 fun v39 c40 =>
asS v39 fun z41 =>
popN c40 <|
popN e32 <|
logic_Test_j3 k (fun t7 t6 => K .ret ⟨[(6, .ptr 6 0), (7, .pv (.int .i64 t7))], [(6, [.pv (.int .i64 t6.f0), .pv (.int .i64 t6.f1), .pv (.str t6.f2)])]⟩) op0 (⟨z13, z16, z19⟩ : S23) (⟨z24, z27, z30⟩ : S23) (⟨z35, z38, z41⟩ : S23)
noncomputable def logic_Test_cfg {ρ : Type} (k : Nat) : Cfg UX ρ where
  live i := (assoc [(0, [0, 1, 2]), (1, [0, 4, 5, 6]), (2, [6]), (3, [0, 4, 5, 6]), (4, [6]), (5, [0, 4, 5, 6]), (6, [0, 6, 8]), (7, [6, 8, 35]), (8, [6, 8]), (9, [6, 8, 35]), (10, [6, 8]), (11, [6, 8, 35]), (12, [6, 8]), (13, [6, 8, 35]), (14, [6, 8]), (15, [6, 8, 35]), (16, [6, 8]), (17, [6, 8])] i).getD []
  boxes i := (assoc [(0, []), (1, [4, 5, 6]), (2, [6]), (3, [4, 5, 6]), (4, [6]), (5, [4, 5, 6]), (6, [6]), (7, [6]), (8, [6]), (9, [6]), (10, [6]), (11, [6]), (12, [6]), (13, [6]), (14, [6]), (15, [6]), (16, [6]), (17, [6])] i).getD []
  tk i := (assoc [] i).getD []
  n := 64
  labelR l := (assoc [] l).getD 0
  loops := assoc []
  labels := assoc []
  joins := assoc [(5, logic_Test_j5_s k), (3, logic_Test_j3_s k)]
  xl i e := match e with
    | .nxt => assoc [] i
    | .ret => assoc [(5, ([6, 7], [6])), (3, ([6, 7], [6]))] i
    | .exit j => (assoc [] i).bind fun l => assoc l j
    | .goto j => (assoc [] i).bind fun l => assoc l j
noncomputable def logic_Test_L : List Code := selI [] (loopsOf logic_Test_code)
noncomputable def logic_Test_J : List Code := selI [5, 3] (joinsOf logic_Test_code)
noncomputable def logic_Test_S : List Code := scopesOf logic_Test_code
theorem logic_Test_j3_eq0 {ρ : Type} (k : Nat) (K : Ex → St UU → Option ρ) (op0 : Int) (a4 : S23) (b5 : S23) (t6 : S23) : exec UX (logic_Test_cfg k) (logic_Test_G k) (logic_Test_J.getD 0 .skip) ⟨[(0, .pv (.int .i64 op0)), (4, .ptr 4 0), (5, .ptr 5 0), (6, .ptr 6 0)], [(4, [.pv (.int .i64 a4.f0), .pv (.int .i64 a4.f1), .pv (.str a4.f2)]), (5, [.pv (.int .i64 b5.f0), .pv (.int .i64 b5.f1), .pv (.str b5.f2)]), (6, [.pv (.int .i64 t6.f0), .pv (.int .i64 t6.f1), .pv (.str t6.f2)])]⟩ (nrmK UX (logic_Test_cfg k) 3 K) = logic_Test_j3 k (fun t7 t6 => K .ret ⟨[(6, .ptr 6 0), (7, .pv (.int .i64 t7))], [(6, [.pv (.int .i64 t6.f0), .pv (.int .i64 t6.f1), .pv (.str t6.f2)])]⟩) op0 a4 b5 t6 := by kernel_rfl
theorem logic_Test_j3_ok0 {ρ : Type} (k : Nat) : JoinOK UX (logic_Test_cfg (ρ := ρ) k) (logic_Test_G k) (logic_Test_J.getD 0 .skip) 3 (logic_Test_j3_s k) := by
  intro s K r h
  obtain ⟨env, hp⟩ := s
  unfold logic_Test_j3_s at h
  replace h := popS_inv h; obtain ⟨v1, e2, rfl, h⟩ := h
  replace h := asI_inv h; obtain ⟨op0, rfl, h⟩ := h
  replace h := popS_inv h; obtain ⟨v3, e4, rfl, h⟩ := h
  replace h := asP_inv h; obtain ⟨rfl, h⟩ := h
  replace h := popS_inv h; obtain ⟨v5, e6, rfl, h⟩ := h
  replace h := asP_inv h; obtain ⟨rfl, h⟩ := h
  replace h := popS_inv h; obtain ⟨v7, e8, rfl, h⟩ := h
  replace h := asP_inv h; obtain ⟨rfl, h⟩ := h
  replace h := popN_inv h; obtain ⟨rfl, h⟩ := h
  replace h := popB_inv h; obtain ⟨c9, e10, rfl, h⟩ := h
  replace h := popA_inv h; obtain ⟨v11, c12, rfl, h⟩ := h
  replace h := asI_inv h; obtain ⟨z13, rfl, h⟩ := h
  replace h := popA_inv h; obtain ⟨v14, c15, rfl, h⟩ := h
  replace h := asI_inv h; obtain ⟨z16, rfl, h⟩ := h
  replace h := popA_inv h; obtain ⟨v17, c18, rfl, h⟩ := h
  replace h := asS_inv h; obtain ⟨z19, rfl, h⟩ := h
  replace h := popN_inv h; obtain ⟨rfl, h⟩ := h
  replace h := popB_inv h; obtain ⟨c20, e21, rfl, h⟩ := h
  replace h := popA_inv h; obtain ⟨v22, c23, rfl, h⟩ := h
  replace h := asI_inv h; obtain ⟨z24, rfl, h⟩ := h
  replace h := popA_inv h; obtain ⟨v25, c26, rfl, h⟩ := h
  replace h := asI_inv h; obtain ⟨z27, rfl, h⟩ := h
  replace h := popA_inv h; obtain ⟨v28, c29, rfl, h⟩ := h
  replace h := asS_inv h; obtain ⟨z30, rfl, h⟩ := h
  replace h := popN_inv h; obtain ⟨rfl, h⟩ := h
  replace h := popB_inv h; obtain ⟨c31, e32, rfl, h⟩ := h
  replace h := popA_inv h; obtain ⟨v33, c34, rfl, h⟩ := h
  replace h := asI_inv h; obtain ⟨z35, rfl, h⟩ := h
  replace h := popA_inv h; obtain ⟨v36, c37, rfl, h⟩ := h
  replace h := asI_inv h; obtain ⟨z38, rfl, h⟩ := h
  replace h := popA_inv h; obtain ⟨v39, c40, rfl, h⟩ := h
  replace h := asS_inv h; obtain ⟨z41, rfl, h⟩ := h
  replace h := popN_inv h; obtain ⟨rfl, h⟩ := h
  replace h := popN_inv h; obtain ⟨rfl, h⟩ := h
  exact (logic_Test_j3_eq0 k K op0 (⟨z13, z16, z19⟩ : S23) (⟨z24, z27, z30⟩ : S23) (⟨z35, z38, z41⟩ : S23)).trans h
theorem logic_Test_j5_eq1 {ρ : Type} (k : Nat) (K : Ex → St UU → Option ρ) (op0 : Int) (a4 : S23) (b5 : S23) (t6 : S23) : exec UX (logic_Test_cfg k) (logic_Test_G k) (logic_Test_J.getD 1 .skip) ⟨[(0, .pv (.int .i64 op0)), (4, .ptr 4 0), (5, .ptr 5 0), (6, .ptr 6 0)], [(4, [.pv (.int .i64 a4.f0), .pv (.int .i64 a4.f1), .pv (.str a4.f2)]), (5, [.pv (.int .i64 b5.f0), .pv (.int .i64 b5.f1), .pv (.str b5.f2)]), (6, [.pv (.int .i64 t6.f0), .pv (.int .i64 t6.f1), .pv (.str t6.f2)])]⟩ (nrmK UX (logic_Test_cfg k) 5 K) = logic_Test_j5 k (fun t7 t6 => K .ret ⟨[(6, .ptr 6 0), (7, .pv (.int .i64 t7))], [(6, [.pv (.int .i64 t6.f0), .pv (.int .i64 t6.f1), .pv (.str t6.f2)])]⟩) op0 a4 b5 t6 := by kernel_rfl
theorem logic_Test_j5_ok1 {ρ : Type} (k : Nat) : JoinOK UX (logic_Test_cfg (ρ := ρ) k) (logic_Test_G k) (logic_Test_J.getD 1 .skip) 5 (logic_Test_j5_s k) := by
  intro s K r h
  obtain ⟨env, hp⟩ := s
  unfold logic_Test_j5_s at h
  replace h := popS_inv h; obtain ⟨v1, e2, rfl, h⟩ := h
  replace h := asI_inv h; obtain ⟨op0, rfl, h⟩ := h
  replace h := popS_inv h; obtain ⟨v3, e4, rfl, h⟩ := h
  replace h := asP_inv h; obtain ⟨rfl, h⟩ := h
  replace h := popS_inv h; obtain ⟨v5, e6, rfl, h⟩ := h
  replace h := asP_inv h; obtain ⟨rfl, h⟩ := h
  replace h := popS_inv h; obtain ⟨v7, e8, rfl, h⟩ := h
  replace h := asP_inv h; obtain ⟨rfl, h⟩ := h
  replace h := popN_inv h; obtain ⟨rfl, h⟩ := h
  replace h := popB_inv h; obtain ⟨c9, e10, rfl, h⟩ := h
  replace h := popA_inv h; obtain ⟨v11, c12, rfl, h⟩ := h
  replace h := asI_inv h; obtain ⟨z13, rfl, h⟩ := h
  replace h := popA_inv h; obtain ⟨v14, c15, rfl, h⟩ := h
  replace h := asI_inv h; obtain ⟨z16, rfl, h⟩ := h
  replace h := popA_inv h; obtain ⟨v17, c18, rfl, h⟩ := h
  replace h := asS_inv h; obtain ⟨z19, rfl, h⟩ := h
  replace h := popN_inv h; obtain ⟨rfl, h⟩ := h
  replace h := popB_inv h; obtain ⟨c20, e21, rfl, h⟩ := h
  replace h := popA_inv h; obtain ⟨v22, c23, rfl, h⟩ := h
  replace h := asI_inv h; obtain ⟨z24, rfl, h⟩ := h
  replace h := popA_inv h; obtain ⟨v25, c26, rfl, h⟩ := h
  replace h := asI_inv h; obtain ⟨z27, rfl, h⟩ := h
  replace h := popA_inv h; obtain ⟨v28, c29, rfl, h⟩ := h
  replace h := asS_inv h; obtain ⟨z30, rfl, h⟩ := h
  replace h := popN_inv h; obtain ⟨rfl, h⟩ := h
  replace h := popB_inv h; obtain ⟨c31, e32, rfl, h⟩ := h
  replace h := popA_inv h; obtain ⟨v33, c34, rfl, h⟩ := h
  replace h := asI_inv h; obtain ⟨z35, rfl, h⟩ := h
  replace h := popA_inv h; obtain ⟨v36, c37, rfl, h⟩ := h
  replace h := asI_inv h; obtain ⟨z38, rfl, h⟩ := h
  replace h := popA_inv h; obtain ⟨v39, c40, rfl, h⟩ := h
  replace h := asS_inv h; obtain ⟨z41, rfl, h⟩ := h
  replace h := popN_inv h; obtain ⟨rfl, h⟩ := h
  replace h := popN_inv h; obtain ⟨rfl, h⟩ := h
  exact (logic_Test_j5_eq1 k K op0 (⟨z13, z16, z19⟩ : S23) (⟨z24, z27, z30⟩ : S23) (⟨z35, z38, z41⟩ : S23)).trans h
theorem logic_Test_cok {ρ : Type} (k : Nat) : COK (logic_Test_cfg (ρ := ρ) k) (logic_Test_G k) logic_Test_code :=
  cok_of (tl := []) (tj := [(5, logic_Test_j5_s k), (3, logic_Test_j3_s k)]) (tb := []) rfl rfl rfl (nil_all (by kernel_rfl)) (all_nth 2 (by kernel_rfl) ⟨join_case (by kernel_rfl) rfl (logic_Test_j5_ok1 k), join_case (by kernel_rfl) rfl (logic_Test_j3_ok0 k), trivial⟩) (fun p hp => by cases hp)
noncomputable def logic_Test_enc (r : S23 × Int) : AV UU := .pv (.tup [.typ (.s23 r.1), .int .i64 r.2])
noncomputable def logic_Test_dec (v : AV UU) (_ : List (List (AV UU))) : Option (S23 × Int) :=
asT v fun q1 =>
popA q1 fun p2 q3 =>
as_s23 (.pv p2) fun r0 =>
popA q3 fun p4 q5 =>
asI .i64 (.pv p4) fun r1 =>
popN q5 <|
some (r0, r1)
theorem logic_Test_dec_enc (v : AV UU) (b : List (List (AV UU))) (r : S23 × Int) (h : logic_Test_dec v b = some r) : v = logic_Test_enc r := by
  unfold logic_Test_dec at h
  replace h := asT_inv h; obtain ⟨q1, rfl, h⟩ := h
  replace h := popA_inv h; obtain ⟨p2, q3, rfl, h⟩ := h
  replace h := as_s23_inv h; obtain ⟨r0, e, h⟩ := h; cases e
  replace h := popA_inv h; obtain ⟨p4, q5, rfl, h⟩ := h
  replace h := asI_inv h; obtain ⟨r1, e, h⟩ := h; cases e
  replace h := popN_inv h; obtain ⟨rfl, h⟩ := h
  cases h
  rfl
theorem logic_Test_eq (k : Nat) (op0 : Int) (a1 : S23) (b2 : S23) : bodyK UX (logic_Test_cfg k) (logic_Test_G k) Tryd.f72 [.pv (.int .i64 op0), .pv (.typ (.s23 a1)), .pv (.typ (.s23 b2))] [] logic_Test_dec = logic_Test k op0 a1 b2 := by kernel_rfl
theorem logic_Test_con (k : Nat) (op0 : Int) (a1 : S23) (b2 : S23) (r : S23 × Int) (h : logic_Test k op0 a1 b2 = some r) : Con (X := UX) Tryd.prog 72 [.pv (.int .i64 op0), .pv (.typ (.s23 a1)), .pv (.typ (.s23 b2))] [] (logic_Test_enc r) [] :=
  con_of_body xok tok Tryd.func72 logic_Test_body (logic_Test_gok k) rfl (logic_Test_cok k) (of_decide_eq_true (by kernel_rfl)) logic_Test_dec_enc ((logic_Test_eq k op0 a1 b2).trans h)
noncomputable def logic_Test_an {ρ : Type} (k : Nat) : An UX ρ := fun args bx K =>
popA args fun v1 a2 =>
asI .i64 v1 fun op0 =>
popA a2 fun v3 a4 =>
as_s23 v3 fun a1 =>
popA a4 fun v5 a6 =>
as_s23 v5 fun b2 =>
popN a6 <|
popN bx <|
(logic_Test k op0 a1 b2).bind fun r => K (logic_Test_enc r) []
theorem logic_Test_ok {ρ : Type} (k : Nat) : AnsOK Tryd.prog 72 (logic_Test_an (ρ := ρ) k) := by
  intro args bx K r h
  unfold logic_Test_an at h
  replace h := popA_inv h; obtain ⟨v1, a2, rfl, h⟩ := h
  replace h := asI_inv h; obtain ⟨op0, rfl, h⟩ := h
  replace h := popA_inv h; obtain ⟨v3, a4, rfl, h⟩ := h
  replace h := as_s23_inv h; obtain ⟨a1, rfl, h⟩ := h
  replace h := popA_inv h; obtain ⟨v5, a6, rfl, h⟩ := h
  replace h := as_s23_inv h; obtain ⟨b2, rfl, h⟩ := h
  replace h := popN_inv h; obtain ⟨rfl, h⟩ := h
  replace h := popN_inv h; obtain ⟨rfl, h⟩ := h
  replace h := bind_inv h
  obtain ⟨x, hx, h⟩ := h
  exact ⟨there_of Tryd.func72 (by kernel_rfl) logic_Test_body, _, _, h, logic_Test_con k op0 a1 b2 x hx⟩

/-! cadastre/logic.Join -/
noncomputable def logic_Join_code : Code := match Tryd.f73.body with | some c => c | none => .skip
theorem logic_Join_body : Tryd.f73.body = some logic_Join_code := by kernel_rfl
noncomputable def logic_Join_G {ρ : Type} (k : Nat) : Ans UX ρ := gk 38 (value_All_an k) (gk 74 (logic_truth_an k) (gk 97 (logic_answer_an k) (gnil)))
theorem logic_Join_gok {ρ : Type} (k : Nat) : GOK Tryd.prog (logic_Join_G (ρ := ρ) k) := gok_cons (value_All_ok k) (gok_cons (logic_truth_ok k) (gok_cons (logic_answer_ok k) (gok_nil)))
noncomputable def logic_Join_j3_s {ρ : Type} (k : Nat) : Run UX ρ := fun s K =>
popS 0 s.env fun v1 e2 =>
asI .i64 v1 fun op0 =>
popS 4 e2 fun v3 e4 =>
asP 4 0 v3 <|
popS 5 e4 fun v5 e6 =>
asP 5 0 v5 <|
popS 6 e6 fun v7 e8 =>
asP 6 0 v7 <|
popN e8 <|
popB 4 s.hp fun c9 e10 =>
popA c9 fun v11 c12 =>
asI .i64 v11 fun z13 =>
popA c12 fun v14 c15 =>
asI .i64 v14 fun z16 =>
popA c15 fun v17 c18 =>
asS v17 fun z19 =>
popN c18 <|
popB 5 e10 fun c20 e21 =>
popA c20 fun v22 c23 =>
asI .i64 v22 fun z24 =>
popA c23 fun v25 c26 =>
asI .i64 v25 fun z27 =>
popA c26 fun v28 c29 =>
asS v28 fun z30 =>
popN c29 <|
popB 6 e21 fun c31 e32 =>
popA c31 fun v33 c34 =>
asI .i64 v33 fun z35 =>
popA c34 fun v36 c37 =>
asI .i64 v36 fun z38 =>
popA c37 fun v39 c40 =>
asS v39 fun z41 =>
popN c40 <|
popN e32 <|
logic_Join_j3 k (fun t7 t6 => K .ret ⟨[(6, .ptr 6 0), (7, .pv (.int .i64 t7))], [(6, [.pv (.int .i64 t6.f0), .pv (.int .i64 t6.f1), .pv (.str t6.f2)])]⟩) op0 (⟨z13, z16, z19⟩ : S23) (⟨z24, z27, z30⟩ : S23) (⟨z35, z38, z41⟩ : S23)
noncomputable def logic_Join_cfg {ρ : Type} (k : Nat) : Cfg UX ρ where
  live i := (assoc [(0, [0, 1, 2]), (1, [0, 4, 5, 6]), (2, [6]), (3, [0, 4, 5, 6]), (4, [0, 5, 6, 8, 9]), (5, [6, 9]), (6, [0, 5, 6, 8]), (7, [0, 6, 8, 9, 10]), (8, [6, 9]), (9, [0, 6, 8, 10]), (10, [6, 8, 10]), (11, [6, 8, 10])] i).getD []
  boxes i := (assoc [(0, []), (1, [4, 5, 6]), (2, [6]), (3, [4, 5, 6]), (4, [5, 6]), (5, [6]), (6, [5, 6]), (7, [6]), (8, [6]), (9, [6]), (10, [6]), (11, [6])] i).getD []
  tk i := (assoc [] i).getD []
  n := 53
  labelR l := (assoc [] l).getD 0
  loops := assoc []
  labels := assoc []
  joins := assoc [(3, logic_Join_j3_s k)]
  xl i e := match e with
    | .nxt => assoc [] i
    | .ret => assoc [(3, ([6, 7], [6]))] i
    | .exit j => (assoc [] i).bind fun l => assoc l j
    | .goto j => (assoc [] i).bind fun l => assoc l j
noncomputable def logic_Join_L : List Code := selI [] (loopsOf logic_Join_code)
noncomputable def logic_Join_J : List Code := selI [3] (joinsOf logic_Join_code)
noncomputable def logic_Join_S : List Code := scopesOf logic_Join_code
theorem logic_Join_j3_eq0 {ρ : Type} (k : Nat) (K : Ex → St UU → Option ρ) (op0 : Int) (a4 : S23) (b5 : S23) (t6 : S23) : exec UX (logic_Join_cfg k) (logic_Join_G k) (logic_Join_J.getD 0 .skip) ⟨[(0, .pv (.int .i64 op0)), (4, .ptr 4 0), (5, .ptr 5 0), (6, .ptr 6 0)], [(4, [.pv (.int .i64 a4.f0), .pv (.int .i64 a4.f1), .pv (.str a4.f2)]), (5, [.pv (.int .i64 b5.f0), .pv (.int .i64 b5.f1), .pv (.str b5.f2)]), (6, [.pv (.int .i64 t6.f0), .pv (.int .i64 t6.f1), .pv (.str t6.f2)])]⟩ (nrmK UX (logic_Join_cfg k) 3 K) = logic_Join_j3 k (fun t7 t6 => K .ret ⟨[(6, .ptr 6 0), (7, .pv (.int .i64 t7))], [(6, [.pv (.int .i64 t6.f0), .pv (.int .i64 t6.f1), .pv (.str t6.f2)])]⟩) op0 a4 b5 t6 := by kernel_rfl
theorem logic_Join_j3_ok0 {ρ : Type} (k : Nat) : JoinOK UX (logic_Join_cfg (ρ := ρ) k) (logic_Join_G k) (logic_Join_J.getD 0 .skip) 3 (logic_Join_j3_s k) := by
  intro s K r h
  obtain ⟨env, hp⟩ := s
  unfold logic_Join_j3_s at h
  replace h := popS_inv h; obtain ⟨v1, e2, rfl, h⟩ := h
  replace h := asI_inv h; obtain ⟨op0, rfl, h⟩ := h
  replace h := popS_inv h; obtain ⟨v3, e4, rfl, h⟩ := h
  replace h := asP_inv h; obtain ⟨rfl, h⟩ := h
  replace h := popS_inv h; obtain ⟨v5, e6, rfl, h⟩ := h
  replace h := asP_inv h; obtain ⟨rfl, h⟩ := h
  replace h := popS_inv h; obtain ⟨v7, e8, rfl, h⟩ := h
  replace h := asP_inv h; obtain ⟨rfl, h⟩ := h
  replace h := popN_inv h; obtain ⟨rfl, h⟩ := h
  replace h := popB_inv h; obtain ⟨c9, e10, rfl, h⟩ := h
  replace h := popA_inv h; obtain ⟨v11, c12, rfl, h⟩ := h
  replace h := asI_inv h; obtain ⟨z13, rfl, h⟩ := h
  replace h := popA_inv h; obtain ⟨v14, c15, rfl, h⟩ := h
  replace h := asI_inv h; obtain ⟨z16, rfl, h⟩ := h
  replace h := popA_inv h; obtain ⟨v17, c18, rfl, h⟩ := h
  replace h := asS_inv h; obtain ⟨z19, rfl, h⟩ := h
  replace h := popN_inv h; obtain ⟨rfl, h⟩ := h
  replace h := popB_inv h; obtain ⟨c20, e21, rfl, h⟩ := h
  replace h := popA_inv h; obtain ⟨v22, c23, rfl, h⟩ := h
  replace h := asI_inv h; obtain ⟨z24, rfl, h⟩ := h
  replace h := popA_inv h; obtain ⟨v25, c26, rfl, h⟩ := h
  replace h := asI_inv h; obtain ⟨z27, rfl, h⟩ := h
  replace h := popA_inv h; obtain ⟨v28, c29, rfl, h⟩ := h
  replace h := asS_inv h; obtain ⟨z30, rfl, h⟩ := h
  replace h := popN_inv h; obtain ⟨rfl, h⟩ := h
  replace h := popB_inv h; obtain ⟨c31, e32, rfl, h⟩ := h
  replace h := popA_inv h; obtain ⟨v33, c34, rfl, h⟩ := h
  replace h := asI_inv h; obtain ⟨z35, rfl, h⟩ := h
  replace h := popA_inv h; obtain ⟨v36, c37, rfl, h⟩ := h
  replace h := asI_inv h; obtain ⟨z38, rfl, h⟩ := h
  replace h := popA_inv h; obtain ⟨v39, c40, rfl, h⟩ := h
  replace h := asS_inv h; obtain ⟨z41, rfl, h⟩ := h
  replace h := popN_inv h; obtain ⟨rfl, h⟩ := h
  replace h := popN_inv h; obtain ⟨rfl, h⟩ := h
  exact (logic_Join_j3_eq0 k K op0 (⟨z13, z16, z19⟩ : S23) (⟨z24, z27, z30⟩ : S23) (⟨z35, z38, z41⟩ : S23)).trans h
theorem logic_Join_cok {ρ : Type} (k : Nat) : COK (logic_Join_cfg (ρ := ρ) k) (logic_Join_G k) logic_Join_code :=
  cok_of (tl := []) (tj := [(3, logic_Join_j3_s k)]) (tb := []) rfl rfl rfl (nil_all (by kernel_rfl)) (all_nth 1 (by kernel_rfl) ⟨join_case (by kernel_rfl) rfl (logic_Join_j3_ok0 k), trivial⟩) (fun p hp => by cases hp)
noncomputable def logic_Join_enc (r : S23 × Int) : AV UU := .pv (.tup [.typ (.s23 r.1), .int .i64 r.2])
noncomputable def logic_Join_dec (v : AV UU) (_ : List (List (AV UU))) : Option (S23 × Int) :=
asT v fun q1 =>
popA q1 fun p2 q3 =>
as_s23 (.pv p2) fun r0 =>
popA q3 fun p4 q5 =>
asI .i64 (.pv p4) fun r1 =>
popN q5 <|
some (r0, r1)
theorem logic_Join_dec_enc (v : AV UU) (b : List (List (AV UU))) (r : S23 × Int) (h : logic_Join_dec v b = some r) : v = logic_Join_enc r := by
  unfold logic_Join_dec at h
  replace h := asT_inv h; obtain ⟨q1, rfl, h⟩ := h
  replace h := popA_inv h; obtain ⟨p2, q3, rfl, h⟩ := h
  replace h := as_s23_inv h; obtain ⟨r0, e, h⟩ := h; cases e
  replace h := popA_inv h; obtain ⟨p4, q5, rfl, h⟩ := h
  replace h := asI_inv h; obtain ⟨r1, e, h⟩ := h; cases e
  replace h := popN_inv h; obtain ⟨rfl, h⟩ := h
  cases h
  rfl
theorem logic_Join_eq (k : Nat) (op0 : Int) (a1 : S23) (b2 : S23) : bodyK UX (logic_Join_cfg k) (logic_Join_G k) Tryd.f73 [.pv (.int .i64 op0), .pv (.typ (.s23 a1)), .pv (.typ (.s23 b2))] [] logic_Join_dec = logic_Join k op0 a1 b2 := by kernel_rfl
theorem logic_Join_con (k : Nat) (op0 : Int) (a1 : S23) (b2 : S23) (r : S23 × Int) (h : logic_Join k op0 a1 b2 = some r) : Con (X := UX) Tryd.prog 73 [.pv (.int .i64 op0), .pv (.typ (.s23 a1)), .pv (.typ (.s23 b2))] [] (logic_Join_enc r) [] :=
  con_of_body xok tok Tryd.func73 logic_Join_body (logic_Join_gok k) rfl (logic_Join_cok k) (of_decide_eq_true (by kernel_rfl)) logic_Join_dec_enc ((logic_Join_eq k op0 a1 b2).trans h)
noncomputable def logic_Join_an {ρ : Type} (k : Nat) : An UX ρ := fun args bx K =>
popA args fun v1 a2 =>
asI .i64 v1 fun op0 =>
popA a2 fun v3 a4 =>
as_s23 v3 fun a1 =>
popA a4 fun v5 a6 =>
as_s23 v5 fun b2 =>
popN a6 <|
popN bx <|
(logic_Join k op0 a1 b2).bind fun r => K (logic_Join_enc r) []
theorem logic_Join_ok {ρ : Type} (k : Nat) : AnsOK Tryd.prog 73 (logic_Join_an (ρ := ρ) k) := by
  intro args bx K r h
  unfold logic_Join_an at h
  replace h := popA_inv h; obtain ⟨v1, a2, rfl, h⟩ := h
  replace h := asI_inv h; obtain ⟨op0, rfl, h⟩ := h
  replace h := popA_inv h; obtain ⟨v3, a4, rfl, h⟩ := h
  replace h := as_s23_inv h; obtain ⟨a1, rfl, h⟩ := h
  replace h := popA_inv h; obtain ⟨v5, a6, rfl, h⟩ := h
  replace h := as_s23_inv h; obtain ⟨b2, rfl, h⟩ := h
  replace h := popN_inv h; obtain ⟨rfl, h⟩ := h
  replace h := popN_inv h; obtain ⟨rfl, h⟩ := h
  replace h := bind_inv h
  obtain ⟨x, hx, h⟩ := h
  exact ⟨there_of Tryd.func73 (by kernel_rfl) logic_Join_body, _, _, h, logic_Join_con k op0 a1 b2 x hx⟩

/-! cadastre/eval.Bin -/
noncomputable def eval_Bin_code : Code := match Tryd.f41.body with | some c => c | none => .skip
theorem eval_Bin_body : Tryd.f41.body = some eval_Bin_code := by kernel_rfl
noncomputable def eval_Bin_G {ρ : Type} (k : Nat) : Ans UX ρ := gk 70 (arith_Concat_an k) (gk 71 (arith_Do_an k) (gk 72 (logic_Test_an k) (gk 73 (logic_Join_an k) (gnil))))
theorem eval_Bin_gok {ρ : Type} (k : Nat) : GOK Tryd.prog (eval_Bin_G (ρ := ρ) k) := gok_cons (arith_Concat_ok k) (gok_cons (arith_Do_ok k) (gok_cons (logic_Test_ok k) (gok_cons (logic_Join_ok k) (gok_nil))))
noncomputable def eval_Bin_cfg {ρ : Type} (k : Nat) : Cfg UX ρ where
  live i := (assoc [(0, [0, 1, 2]), (1, [0, 4, 5, 6]), (2, [4, 5, 6]), (3, [0, 4, 5, 6]), (4, [0, 4, 5, 6]), (5, [0, 4, 5, 6]), (6, [0, 4, 5, 6]), (7, [0, 4, 5, 6])] i).getD []
  boxes i := (assoc [(0, []), (1, [4, 5, 6]), (2, [4, 5, 6]), (3, [4, 5, 6]), (4, [4, 5, 6]), (5, [4, 5, 6]), (6, [4, 5, 6]), (7, [4, 5, 6])] i).getD []
  tk i := (assoc [] i).getD []
  n := 40
  labelR l := (assoc [] l).getD 0
  loops := assoc []
  labels := assoc []
  joins := assoc []
  xl i e := match e with
    | .nxt => assoc [] i
    | .ret => assoc [] i
    | .exit j => (assoc [] i).bind fun l => assoc l j
    | .goto j => (assoc [] i).bind fun l => assoc l j
noncomputable def eval_Bin_L : List Code := selI [] (loopsOf eval_Bin_code)
noncomputable def eval_Bin_J : List Code := selI [] (joinsOf eval_Bin_code)
noncomputable def eval_Bin_S : List Code := scopesOf eval_Bin_code
theorem eval_Bin_cok {ρ : Type} (k : Nat) : COK (eval_Bin_cfg (ρ := ρ) k) (eval_Bin_G k) eval_Bin_code :=
  cok_of (tl := []) (tj := []) (tb := []) rfl rfl rfl (nil_all (by kernel_rfl)) (nil_all (by kernel_rfl)) (fun p hp => by cases hp)
noncomputable def eval_Bin_enc (r : S23 × Int) : AV UU := .pv (.tup [.typ (.s23 r.1), .int .i64 r.2])
noncomputable def eval_Bin_dec (v : AV UU) (_ : List (List (AV UU))) : Option (S23 × Int) :=
asT v fun q1 =>
popA q1 fun p2 q3 =>
as_s23 (.pv p2) fun r0 =>
popA q3 fun p4 q5 =>
asI .i64 (.pv p4) fun r1 =>
popN q5 <|
some (r0, r1)
theorem eval_Bin_dec_enc (v : AV UU) (b : List (List (AV UU))) (r : S23 × Int) (h : eval_Bin_dec v b = some r) : v = eval_Bin_enc r := by
  unfold eval_Bin_dec at h
  replace h := asT_inv h; obtain ⟨q1, rfl, h⟩ := h
  replace h := popA_inv h; obtain ⟨p2, q3, rfl, h⟩ := h
  replace h := as_s23_inv h; obtain ⟨r0, e, h⟩ := h; cases e
  replace h := popA_inv h; obtain ⟨p4, q5, rfl, h⟩ := h
  replace h := asI_inv h; obtain ⟨r1, e, h⟩ := h; cases e
  replace h := popN_inv h; obtain ⟨rfl, h⟩ := h
  cases h
  rfl
theorem eval_Bin_eq (k : Nat) (op0 : Int) (a1 : S23) (b2 : S23) : bodyK UX (eval_Bin_cfg k) (eval_Bin_G k) Tryd.f41 [.pv (.int .i64 op0), .pv (.typ (.s23 a1)), .pv (.typ (.s23 b2))] [] eval_Bin_dec = eval_Bin k op0 a1 b2 := by kernel_rfl
theorem eval_Bin_con (k : Nat) (op0 : Int) (a1 : S23) (b2 : S23) (r : S23 × Int) (h : eval_Bin k op0 a1 b2 = some r) : Con (X := UX) Tryd.prog 41 [.pv (.int .i64 op0), .pv (.typ (.s23 a1)), .pv (.typ (.s23 b2))] [] (eval_Bin_enc r) [] :=
  con_of_body xok tok Tryd.func41 eval_Bin_body (eval_Bin_gok k) rfl (eval_Bin_cok k) (of_decide_eq_true (by kernel_rfl)) eval_Bin_dec_enc ((eval_Bin_eq k op0 a1 b2).trans h)
noncomputable def eval_Bin_an {ρ : Type} (k : Nat) : An UX ρ := fun args bx K =>
popA args fun v1 a2 =>
asI .i64 v1 fun op0 =>
popA a2 fun v3 a4 =>
as_s23 v3 fun a1 =>
popA a4 fun v5 a6 =>
as_s23 v5 fun b2 =>
popN a6 <|
popN bx <|
(eval_Bin k op0 a1 b2).bind fun r => K (eval_Bin_enc r) []
theorem eval_Bin_ok {ρ : Type} (k : Nat) : AnsOK Tryd.prog 41 (eval_Bin_an (ρ := ρ) k) := by
  intro args bx K r h
  unfold eval_Bin_an at h
  replace h := popA_inv h; obtain ⟨v1, a2, rfl, h⟩ := h
  replace h := asI_inv h; obtain ⟨op0, rfl, h⟩ := h
  replace h := popA_inv h; obtain ⟨v3, a4, rfl, h⟩ := h
  replace h := as_s23_inv h; obtain ⟨a1, rfl, h⟩ := h
  replace h := popA_inv h; obtain ⟨v5, a6, rfl, h⟩ := h
  replace h := as_s23_inv h; obtain ⟨b2, rfl, h⟩ := h
  replace h := popN_inv h; obtain ⟨rfl, h⟩ := h
  replace h := popN_inv h; obtain ⟨rfl, h⟩ := h
  replace h := bind_inv h
  obtain ⟨x, hx, h⟩ := h
  exact ⟨there_of Tryd.func41 (by kernel_rfl) eval_Bin_body, _, _, h, eval_Bin_con k op0 a1 b2 x hx⟩

noncomputable def eval_Value_code : Code := match Tryd.f24.body with | some c => c | none => .skip
theorem eval_Value_body : Tryd.f24.body = some eval_Value_code := by kernel_rfl
noncomputable def eval_Value_enc (r : S23 × Int) : AV UU := .pv (.tup [.typ (.s23 r.1), .int .i64 r.2])
structure eval_Value_R_ok (rc : eval_Value_R) : Prop where
  eval_Value : ∀ (e0 : S25) (row1 : List S23) (r : S23 × Int), rc.eval_Value e0 row1 = some r → Con (X := UX) Tryd.prog 24 [.pv (.typ (.s25 e0)), .pv (.typ (.l23 row1))] [] (eval_Value_enc r) []
noncomputable def eval_Value_ran {ρ : Type} (rc : eval_Value_R) : An UX ρ := fun args bx K =>
popA args fun v1 a2 =>
as_s25 v1 fun e0 =>
popA a2 fun v3 a4 =>
as_l23 v3 fun row1 =>
popN a4 <|
popN bx <|
(rc.eval_Value e0 row1).bind fun r => K (eval_Value_enc r) []
theorem eval_Value_rok {ρ : Type} (rc : eval_Value_R) (hrc : eval_Value_R_ok rc) : AnsOK Tryd.prog 24 (eval_Value_ran (ρ := ρ) rc) := by
  intro args bx K r h
  unfold eval_Value_ran at h
  replace h := popA_inv h; obtain ⟨v1, a2, rfl, h⟩ := h
  replace h := as_s25_inv h; obtain ⟨e0, rfl, h⟩ := h
  replace h := popA_inv h; obtain ⟨v3, a4, rfl, h⟩ := h
  replace h := as_l23_inv h; obtain ⟨row1, rfl, h⟩ := h
  replace h := popN_inv h; obtain ⟨rfl, h⟩ := h
  replace h := popN_inv h; obtain ⟨rfl, h⟩ := h
  replace h := bind_inv h
  obtain ⟨x, hx, h⟩ := h
  exact ⟨there_of Tryd.func24 (by kernel_rfl) eval_Value_body, _, _, h, hrc.eval_Value e0 row1 x hx⟩
/-! cadastre/eval.Value -/
noncomputable def eval_Value_G {ρ : Type} (k : Nat) (rc : eval_Value_R) : Ans UX ρ := gk 24 (eval_Value_ran rc) (gk 40 (eval_Un_an k) (gk 41 (eval_Bin_an k) (gnil)))
theorem eval_Value_gok {ρ : Type} (k : Nat) (rc : eval_Value_R) (hrc : eval_Value_R_ok rc) : GOK Tryd.prog (eval_Value_G (ρ := ρ) k rc) := gok_cons (eval_Value_rok rc hrc) (gok_cons (eval_Un_ok k) (gok_cons (eval_Bin_ok k) (gok_nil)))
noncomputable def eval_Value_j9_s {ρ : Type} (k : Nat) (rc : eval_Value_R) : Run UX ρ := fun s K =>
popS 1 s.env fun v1 e2 =>
as_l23 v1 fun row1 =>
popS 2 e2 fun v3 e4 =>
asP 2 0 v3 <|
popS 4 e4 fun v5 e6 =>
asP 4 0 v5 <|
popS 6 e6 fun v7 e8 =>
asP 6 0 v7 <|
popS 8 e8 fun v9 e10 =>
asI .i64 v9 fun i8 =>
popN e10 <|
popB 2 s.hp fun c11 e12 =>
popA c11 fun v13 c14 =>
asI .i64 v13 fun z15 =>
popA c14 fun v16 c17 =>
asI .i64 v16 fun z18 =>
popA c17 fun v19 c20 =>
asI .i64 v19 fun z21 =>
popA c20 fun v22 c23 =>
asS v22 fun z24 =>
popA c23 fun v25 c26 =>
asS v25 fun z27 =>
popA c26 fun v28 c29 =>
asS v28 fun z30 =>
popA c29 fun v31 c32 =>
as_l25 v31 fun z33 =>
popN c32 <|
popB 4 e12 fun c34 e35 =>
popA c34 fun v36 c37 =>
asI .i64 v36 fun z38 =>
popA c37 fun v39 c40 =>
asI .i64 v39 fun z41 =>
popA c40 fun v42 c43 =>
asS v42 fun z44 =>
popN c43 <|
popB 6 e35 fun c45 e46 =>
popA c45 fun v47 c48 =>
as_a77 v47 fun z49 =>
popN c48 <|
popN e46 <|
eval_Value_j9 k rc (fun bad7 t4 => K (.goto 0) ⟨[(4, .ptr 4 0), (7, .pv (.int .i64 bad7))], [(4, [.pv (.int .i64 t4.f0), .pv (.int .i64 t4.f1), .pv (.str t4.f2)])]⟩) (fun row1 i8 e2 t4 l6_0 => K (.goto 1) ⟨[(1, .pv (.typ (.l23 row1))), (2, .ptr 2 0), (4, .ptr 4 0), (6, .ptr 6 0), (8, .pv (.int .i64 i8))], [(2, [.pv (.int .i64 e2.f0), .pv (.int .i64 e2.f1.f0), .pv (.int .i64 e2.f1.f1), .pv (.str e2.f1.f2), .pv (.str e2.f2), .pv (.str e2.f3), .pv (.typ (.l25 e2.f4))]), (4, [.pv (.int .i64 t4.f0), .pv (.int .i64 t4.f1), .pv (.str t4.f2)]), (6, [.pv (.typ (.a77 l6_0))])]⟩) (fun t5 t4 => K .ret ⟨[(4, .ptr 4 0), (5, .pv (.int .i64 t5))], [(4, [.pv (.int .i64 t4.f0), .pv (.int .i64 t4.f1), .pv (.str t4.f2)])]⟩) row1 i8 (⟨z15, (⟨z18, z21, z24⟩ : S23), z27, z30, z33⟩ : S25) (⟨z38, z41, z44⟩ : S23) z49
noncomputable def eval_Value_g1_s {ρ : Type} (k : Nat) (rc : eval_Value_R) : Run UX ρ := fun s K =>
popS 1 s.env fun v1 e2 =>
as_l23 v1 fun row1 =>
popS 2 e2 fun v3 e4 =>
asP 2 0 v3 <|
popS 4 e4 fun v5 e6 =>
asP 4 0 v5 <|
popS 6 e6 fun v7 e8 =>
asP 6 0 v7 <|
popS 8 e8 fun v9 e10 =>
asI .i64 v9 fun i8 =>
popN e10 <|
popB 2 s.hp fun c11 e12 =>
popA c11 fun v13 c14 =>
asI .i64 v13 fun z15 =>
popA c14 fun v16 c17 =>
asI .i64 v16 fun z18 =>
popA c17 fun v19 c20 =>
asI .i64 v19 fun z21 =>
popA c20 fun v22 c23 =>
asS v22 fun z24 =>
popA c23 fun v25 c26 =>
asS v25 fun z27 =>
popA c26 fun v28 c29 =>
asS v28 fun z30 =>
popA c29 fun v31 c32 =>
as_l25 v31 fun z33 =>
popN c32 <|
popB 4 e12 fun c34 e35 =>
popA c34 fun v36 c37 =>
asI .i64 v36 fun z38 =>
popA c37 fun v39 c40 =>
asI .i64 v39 fun z41 =>
popA c40 fun v42 c43 =>
asS v42 fun z44 =>
popN c43 <|
popB 6 e35 fun c45 e46 =>
popA c45 fun v47 c48 =>
as_a77 v47 fun z49 =>
popN c48 <|
popN e46 <|
eval_Value_g1 k rc (fun t5 t4 => K .ret ⟨[(4, .ptr 4 0), (5, .pv (.int .i64 t5))], [(4, [.pv (.int .i64 t4.f0), .pv (.int .i64 t4.f1), .pv (.str t4.f2)])]⟩) k row1 i8 (⟨z15, (⟨z18, z21, z24⟩ : S23), z27, z30, z33⟩ : S25) (⟨z38, z41, z44⟩ : S23) z49
noncomputable def eval_Value_cfg {ρ : Type} (k : Nat) (rc : eval_Value_R) : Cfg UX ρ where
  live i := (assoc [(0, [0, 1]), (1, [1, 2, 4]), (2, [1, 2, 4, 6]), (3, [1, 2, 4, 6]), (4, [1, 2, 4, 6, 8]), (5, [1, 2, 4, 6, 8, 10]), (6, [2, 4]), (7, [1, 2, 4, 6, 8, 10]), (8, [1, 2, 4]), (9, [1, 2, 4, 6, 8]), (10, [1, 2, 4, 6, 8]), (11, [1, 2, 4, 6, 7, 8]), (12, [1, 2, 4, 6, 8]), (13, [2, 4, 6]), (14, [2, 4, 6]), (15, [2, 4, 6]), (16, [4, 7])] i).getD []
  boxes i := (assoc [(0, []), (1, [2, 4]), (2, [2, 4, 6]), (3, [2, 4, 6]), (4, [2, 4, 6]), (5, [2, 4, 6]), (6, [2, 4]), (7, [2, 4, 6]), (8, [2, 4]), (9, [2, 4, 6]), (10, [2, 4, 6]), (11, [2, 4, 6]), (12, [2, 4, 6]), (13, [2, 4, 6]), (14, [2, 4, 6]), (15, [2, 4, 6]), (16, [4])] i).getD []
  tk i := (assoc [] i).getD []
  n := 66
  labelR l := (assoc [(1, 9)] l).getD 0
  loops := assoc []
  labels := assoc [(1, eval_Value_g1_s k rc)]
  joins := assoc [(9, eval_Value_j9_s k rc)]
  xl i e := match e with
    | .nxt => assoc [] i
    | .ret => assoc [(9, ([4, 5], [4])), (9, ([4, 5], [4]))] i
    | .exit j => (assoc [] i).bind fun l => assoc l j
    | .goto j => (assoc [(9, [(0, ([4, 7], [4])), (1, ([1, 2, 4, 6, 8], [2, 4, 6]))])] i).bind fun l => assoc l j
noncomputable def eval_Value_L : List Code := selI [] (loopsOf eval_Value_code)
noncomputable def eval_Value_J : List Code := selI [9] (joinsOf eval_Value_code)
noncomputable def eval_Value_S : List Code := scopesOf eval_Value_code
theorem eval_Value_j9_eq0 {ρ : Type} (k : Nat) (rc : eval_Value_R) (K : Ex → St UU → Option ρ) (row1 : List S23) (i8 : Int) (e2 : S25) (t4 : S23) (l6_0 : List S23) : exec UX (eval_Value_cfg k rc) (eval_Value_G k rc) (eval_Value_J.getD 0 .skip) ⟨[(1, .pv (.typ (.l23 row1))), (2, .ptr 2 0), (4, .ptr 4 0), (6, .ptr 6 0), (8, .pv (.int .i64 i8))], [(2, [.pv (.int .i64 e2.f0), .pv (.int .i64 e2.f1.f0), .pv (.int .i64 e2.f1.f1), .pv (.str e2.f1.f2), .pv (.str e2.f2), .pv (.str e2.f3), .pv (.typ (.l25 e2.f4))]), (4, [.pv (.int .i64 t4.f0), .pv (.int .i64 t4.f1), .pv (.str t4.f2)]), (6, [.pv (.typ (.a77 l6_0))])]⟩ (nrmK UX (eval_Value_cfg k rc) 9 K) = eval_Value_j9 k rc (fun bad7 t4 => K (.goto 0) ⟨[(4, .ptr 4 0), (7, .pv (.int .i64 bad7))], [(4, [.pv (.int .i64 t4.f0), .pv (.int .i64 t4.f1), .pv (.str t4.f2)])]⟩) (fun row1 i8 e2 t4 l6_0 => K (.goto 1) ⟨[(1, .pv (.typ (.l23 row1))), (2, .ptr 2 0), (4, .ptr 4 0), (6, .ptr 6 0), (8, .pv (.int .i64 i8))], [(2, [.pv (.int .i64 e2.f0), .pv (.int .i64 e2.f1.f0), .pv (.int .i64 e2.f1.f1), .pv (.str e2.f1.f2), .pv (.str e2.f2), .pv (.str e2.f3), .pv (.typ (.l25 e2.f4))]), (4, [.pv (.int .i64 t4.f0), .pv (.int .i64 t4.f1), .pv (.str t4.f2)]), (6, [.pv (.typ (.a77 l6_0))])]⟩) (fun t5 t4 => K .ret ⟨[(4, .ptr 4 0), (5, .pv (.int .i64 t5))], [(4, [.pv (.int .i64 t4.f0), .pv (.int .i64 t4.f1), .pv (.str t4.f2)])]⟩) row1 i8 e2 t4 l6_0 := by kernel_rfl
theorem eval_Value_j9_ok0 {ρ : Type} (k : Nat) (rc : eval_Value_R) : JoinOK UX (eval_Value_cfg (ρ := ρ) k rc) (eval_Value_G k rc) (eval_Value_J.getD 0 .skip) 9 (eval_Value_j9_s k rc) := by
  intro s K r h
  obtain ⟨env, hp⟩ := s
  unfold eval_Value_j9_s at h
  replace h := popS_inv h; obtain ⟨v1, e2, rfl, h⟩ := h
  replace h := as_l23_inv h; obtain ⟨row1, rfl, h⟩ := h
  replace h := popS_inv h; obtain ⟨v3, e4, rfl, h⟩ := h
  replace h := asP_inv h; obtain ⟨rfl, h⟩ := h
  replace h := popS_inv h; obtain ⟨v5, e6, rfl, h⟩ := h
  replace h := asP_inv h; obtain ⟨rfl, h⟩ := h
  replace h := popS_inv h; obtain ⟨v7, e8, rfl, h⟩ := h
  replace h := asP_inv h; obtain ⟨rfl, h⟩ := h
  replace h := popS_inv h; obtain ⟨v9, e10, rfl, h⟩ := h
  replace h := asI_inv h; obtain ⟨i8, rfl, h⟩ := h
  replace h := popN_inv h; obtain ⟨rfl, h⟩ := h
  replace h := popB_inv h; obtain ⟨c11, e12, rfl, h⟩ := h
  replace h := popA_inv h; obtain ⟨v13, c14, rfl, h⟩ := h
  replace h := asI_inv h; obtain ⟨z15, rfl, h⟩ := h
  replace h := popA_inv h; obtain ⟨v16, c17, rfl, h⟩ := h
  replace h := asI_inv h; obtain ⟨z18, rfl, h⟩ := h
  replace h := popA_inv h; obtain ⟨v19, c20, rfl, h⟩ := h
  replace h := asI_inv h; obtain ⟨z21, rfl, h⟩ := h
  replace h := popA_inv h; obtain ⟨v22, c23, rfl, h⟩ := h
  replace h := asS_inv h; obtain ⟨z24, rfl, h⟩ := h
  replace h := popA_inv h; obtain ⟨v25, c26, rfl, h⟩ := h
  replace h := asS_inv h; obtain ⟨z27, rfl, h⟩ := h
  replace h := popA_inv h; obtain ⟨v28, c29, rfl, h⟩ := h
  replace h := asS_inv h; obtain ⟨z30, rfl, h⟩ := h
  replace h := popA_inv h; obtain ⟨v31, c32, rfl, h⟩ := h
  replace h := as_l25_inv h; obtain ⟨z33, rfl, h⟩ := h
  replace h := popN_inv h; obtain ⟨rfl, h⟩ := h
  replace h := popB_inv h; obtain ⟨c34, e35, rfl, h⟩ := h
  replace h := popA_inv h; obtain ⟨v36, c37, rfl, h⟩ := h
  replace h := asI_inv h; obtain ⟨z38, rfl, h⟩ := h
  replace h := popA_inv h; obtain ⟨v39, c40, rfl, h⟩ := h
  replace h := asI_inv h; obtain ⟨z41, rfl, h⟩ := h
  replace h := popA_inv h; obtain ⟨v42, c43, rfl, h⟩ := h
  replace h := asS_inv h; obtain ⟨z44, rfl, h⟩ := h
  replace h := popN_inv h; obtain ⟨rfl, h⟩ := h
  replace h := popB_inv h; obtain ⟨c45, e46, rfl, h⟩ := h
  replace h := popA_inv h; obtain ⟨v47, c48, rfl, h⟩ := h
  replace h := as_a77_inv h; obtain ⟨z49, rfl, h⟩ := h
  replace h := popN_inv h; obtain ⟨rfl, h⟩ := h
  replace h := popN_inv h; obtain ⟨rfl, h⟩ := h
  exact (eval_Value_j9_eq0 k rc K row1 i8 (⟨z15, (⟨z18, z21, z24⟩ : S23), z27, z30, z33⟩ : S25) (⟨z38, z41, z44⟩ : S23) z49).trans h
noncomputable def eval_Value_g1_f0 {ρ : Type} (k : Nat) (rc : eval_Value_R) : Run UX ρ := (suff UX (eval_Value_cfg k rc) (eval_Value_G k rc) (eval_Value_S.getD 0 .skip) 1).getD fun _ _ => none
theorem eval_Value_g1_eq0 {ρ : Type} (k : Nat) (rc : eval_Value_R) (K : Ex → St UU → Option ρ) : ∀ (n : Nat) (v : (List S23) × Int × S25 × S23 × (List S23)), scopeN UX (fun l s => s.at (eval_Value_cfg (ρ := ρ) k rc).live (eval_Value_cfg (ρ := ρ) k rc).boxes (some ((eval_Value_cfg (ρ := ρ) k rc).labelR l))) (suff UX (eval_Value_cfg k rc) (eval_Value_G k rc) (eval_Value_S.getD 0 .skip)) (fun l => ((eval_Value_cfg (ρ := ρ) k rc).labels l).isSome) n (eval_Value_g1_f0 k rc) ⟨[(1, .pv (.typ (.l23 v.1))), (2, .ptr 2 0), (4, .ptr 4 0), (6, .ptr 6 0), (8, .pv (.int .i64 v.2.1))], [(2, [.pv (.int .i64 v.2.2.1.f0), .pv (.int .i64 v.2.2.1.f1.f0), .pv (.int .i64 v.2.2.1.f1.f1), .pv (.str v.2.2.1.f1.f2), .pv (.str v.2.2.1.f2), .pv (.str v.2.2.1.f3), .pv (.typ (.l25 v.2.2.1.f4))]), (4, [.pv (.int .i64 v.2.2.2.1.f0), .pv (.int .i64 v.2.2.2.1.f1), .pv (.str v.2.2.2.1.f2)]), (6, [.pv (.typ (.a77 v.2.2.2.2))])]⟩ (nrmK UX (eval_Value_cfg k rc) ((eval_Value_cfg (ρ := ρ) k rc).labelR 1) K) = eval_Value_g1 k rc (fun t5 t4 => K .ret ⟨[(4, .ptr 4 0), (5, .pv (.int .i64 t5))], [(4, [.pv (.int .i64 t4.f0), .pv (.int .i64 t4.f1), .pv (.str t4.f2)])]⟩) n v.1 v.2.1 v.2.2.1 v.2.2.2.1 v.2.2.2.2 :=
  scope_rec (X := UX) (fun _ => eval_Value_g1_f0 k rc) (fun v => ⟨[(1, .pv (.typ (.l23 v.1))), (2, .ptr 2 0), (4, .ptr 4 0), (6, .ptr 6 0), (8, .pv (.int .i64 v.2.1))], [(2, [.pv (.int .i64 v.2.2.1.f0), .pv (.int .i64 v.2.2.1.f1.f0), .pv (.int .i64 v.2.2.1.f1.f1), .pv (.str v.2.2.1.f1.f2), .pv (.str v.2.2.1.f2), .pv (.str v.2.2.1.f3), .pv (.typ (.l25 v.2.2.1.f4))]), (4, [.pv (.int .i64 v.2.2.2.1.f0), .pv (.int .i64 v.2.2.2.1.f1), .pv (.str v.2.2.2.1.f2)]), (6, [.pv (.typ (.a77 v.2.2.2.2))])]⟩) (fun rec v => eval_Value_g1_b k rc (fun t5 t4 => K .ret ⟨[(4, .ptr 4 0), (5, .pv (.int .i64 t5))], [(4, [.pv (.int .i64 t4.f0), .pv (.int .i64 t4.f1), .pv (.str t4.f2)])]⟩) (fun row1 i8 e2 t4 l6_0 => rec (row1, i8, e2, t4, l6_0)) v.1 v.2.1 v.2.2.1 v.2.2.2.1 v.2.2.2.2) (fun n v => eval_Value_g1 k rc (fun t5 t4 => K .ret ⟨[(4, .ptr 4 0), (5, .pv (.int .i64 t5))], [(4, [.pv (.int .i64 t4.f0), .pv (.int .i64 t4.f1), .pv (.str t4.f2)])]⟩) n v.1 v.2.1 v.2.2.1 v.2.2.2.1 v.2.2.2.2) (fun n v => by kernel_rfl) (fun _ => rfl) (fun _ _ => rfl)
theorem eval_Value_g1_ok0 {ρ : Type} (k : Nat) (rc : eval_Value_R) : LabOK UX (eval_Value_cfg (ρ := ρ) k rc) (eval_Value_G k rc) (eval_Value_S.getD 0 .skip) 1 (eval_Value_g1_s k rc) := by
  intro f hf s K r h
  have hf : eval_Value_g1_f0 k rc = f := by unfold eval_Value_g1_f0; rw [hf]; rfl
  subst hf
  obtain ⟨env, hp⟩ := s
  unfold eval_Value_g1_s at h
  replace h := popS_inv h; obtain ⟨v1, e2, rfl, h⟩ := h
  replace h := as_l23_inv h; obtain ⟨row1, rfl, h⟩ := h
  replace h := popS_inv h; obtain ⟨v3, e4, rfl, h⟩ := h
  replace h := asP_inv h; obtain ⟨rfl, h⟩ := h
  replace h := popS_inv h; obtain ⟨v5, e6, rfl, h⟩ := h
  replace h := asP_inv h; obtain ⟨rfl, h⟩ := h
  replace h := popS_inv h; obtain ⟨v7, e8, rfl, h⟩ := h
  replace h := asP_inv h; obtain ⟨rfl, h⟩ := h
  replace h := popS_inv h; obtain ⟨v9, e10, rfl, h⟩ := h
  replace h := asI_inv h; obtain ⟨i8, rfl, h⟩ := h
  replace h := popN_inv h; obtain ⟨rfl, h⟩ := h
  replace h := popB_inv h; obtain ⟨c11, e12, rfl, h⟩ := h
  replace h := popA_inv h; obtain ⟨v13, c14, rfl, h⟩ := h
  replace h := asI_inv h; obtain ⟨z15, rfl, h⟩ := h
  replace h := popA_inv h; obtain ⟨v16, c17, rfl, h⟩ := h
  replace h := asI_inv h; obtain ⟨z18, rfl, h⟩ := h
  replace h := popA_inv h; obtain ⟨v19, c20, rfl, h⟩ := h
  replace h := asI_inv h; obtain ⟨z21, rfl, h⟩ := h
  replace h := popA_inv h; obtain ⟨v22, c23, rfl, h⟩ := h
  replace h := asS_inv h; obtain ⟨z24, rfl, h⟩ := h
  replace h := popA_inv h; obtain ⟨v25, c26, rfl, h⟩ := h
  replace h := asS_inv h; obtain ⟨z27, rfl, h⟩ := h
  replace h := popA_inv h; obtain ⟨v28, c29, rfl, h⟩ := h
  replace h := asS_inv h; obtain ⟨z30, rfl, h⟩ := h
  replace h := popA_inv h; obtain ⟨v31, c32, rfl, h⟩ := h
  replace h := as_l25_inv h; obtain ⟨z33, rfl, h⟩ := h
  replace h := popN_inv h; obtain ⟨rfl, h⟩ := h
  replace h := popB_inv h; obtain ⟨c34, e35, rfl, h⟩ := h
  replace h := popA_inv h; obtain ⟨v36, c37, rfl, h⟩ := h
  replace h := asI_inv h; obtain ⟨z38, rfl, h⟩ := h
  replace h := popA_inv h; obtain ⟨v39, c40, rfl, h⟩ := h
  replace h := asI_inv h; obtain ⟨z41, rfl, h⟩ := h
  replace h := popA_inv h; obtain ⟨v42, c43, rfl, h⟩ := h
  replace h := asS_inv h; obtain ⟨z44, rfl, h⟩ := h
  replace h := popN_inv h; obtain ⟨rfl, h⟩ := h
  replace h := popB_inv h; obtain ⟨c45, e46, rfl, h⟩ := h
  replace h := popA_inv h; obtain ⟨v47, c48, rfl, h⟩ := h
  replace h := as_a77_inv h; obtain ⟨z49, rfl, h⟩ := h
  replace h := popN_inv h; obtain ⟨rfl, h⟩ := h
  replace h := popN_inv h; obtain ⟨rfl, h⟩ := h
  exact ⟨k, (eval_Value_g1_eq0 k rc K k (row1, i8, (⟨z15, (⟨z18, z21, z24⟩ : S23), z27, z30, z33⟩ : S25), (⟨z38, z41, z44⟩ : S23), z49)).trans h⟩
theorem eval_Value_cok {ρ : Type} (k : Nat) (rc : eval_Value_R) : COK (eval_Value_cfg (ρ := ρ) k rc) (eval_Value_G k rc) eval_Value_code :=
  cok_of (tl := []) (tj := [(9, eval_Value_j9_s k rc)]) (tb := [(1, eval_Value_g1_s k rc)]) rfl rfl rfl (nil_all (by kernel_rfl)) (all_nth 1 (by kernel_rfl) ⟨join_case (by kernel_rfl) rfl (eval_Value_j9_ok0 k rc), trivial⟩) (fun p hp => by
    simp only [List.mem_cons, List.not_mem_nil, or_false] at hp
    subst hp
    · exact all_nth 1 (by kernel_rfl) ⟨eval_Value_g1_ok0 k rc, trivial⟩)
noncomputable def eval_Value_dec (v : AV UU) (_ : List (List (AV UU))) : Option (S23 × Int) :=
asT v fun q1 =>
popA q1 fun p2 q3 =>
as_s23 (.pv p2) fun r0 =>
popA q3 fun p4 q5 =>
asI .i64 (.pv p4) fun r1 =>
popN q5 <|
some (r0, r1)
theorem eval_Value_dec_enc (v : AV UU) (b : List (List (AV UU))) (r : S23 × Int) (h : eval_Value_dec v b = some r) : v = eval_Value_enc r := by
  unfold eval_Value_dec at h
  replace h := asT_inv h; obtain ⟨q1, rfl, h⟩ := h
  replace h := popA_inv h; obtain ⟨p2, q3, rfl, h⟩ := h
  replace h := as_s23_inv h; obtain ⟨r0, e, h⟩ := h; cases e
  replace h := popA_inv h; obtain ⟨p4, q5, rfl, h⟩ := h
  replace h := asI_inv h; obtain ⟨r1, e, h⟩ := h; cases e
  replace h := popN_inv h; obtain ⟨rfl, h⟩ := h
  cases h
  rfl
theorem eval_Value_eq (k : Nat) (rc : eval_Value_R) (e0 : S25) (row1 : List S23) : bodyK UX (eval_Value_cfg k rc) (eval_Value_G k rc) Tryd.f24 [.pv (.typ (.s25 e0)), .pv (.typ (.l23 row1))] [] eval_Value_dec = eval_Value_r k rc e0 row1 := by kernel_rfl
theorem eval_Value_con_r (k : Nat) (rc : eval_Value_R) (hrc : eval_Value_R_ok rc) (e0 : S25) (row1 : List S23) (r : S23 × Int) (h : eval_Value_r k rc e0 row1 = some r) : Con (X := UX) Tryd.prog 24 [.pv (.typ (.s25 e0)), .pv (.typ (.l23 row1))] [] (eval_Value_enc r) [] :=
  con_of_body xok tok Tryd.func24 eval_Value_body (eval_Value_gok k rc hrc) rfl (eval_Value_cok k rc) (of_decide_eq_true (by kernel_rfl)) eval_Value_dec_enc ((eval_Value_eq k rc e0 row1).trans h)
theorem eval_Value_R_itok (k : Nat) : ∀ d, eval_Value_R_ok (eval_Value_R_it k d)
  | 0 => ⟨fun e0 row1 r h => by have e : (none : Option (S23 × Int)) = some r := h; cases e⟩
  | d + 1 => ⟨fun e0 row1 r h => eval_Value_con_r k (eval_Value_R_it k d) (eval_Value_R_itok k d) e0 row1 r h⟩
theorem eval_Value_con (k : Nat) (e0 : S25) (row1 : List S23) (r : S23 × Int) (h : eval_Value k e0 row1 = some r) : Con (X := UX) Tryd.prog 24 [.pv (.typ (.s25 e0)), .pv (.typ (.l23 row1))] [] (eval_Value_enc r) [] := (eval_Value_R_itok k k).eval_Value e0 row1 r h
noncomputable def eval_Value_an {ρ : Type} (k : Nat) : An UX ρ := fun args bx K =>
popA args fun v1 a2 =>
as_s25 v1 fun e0 =>
popA a2 fun v3 a4 =>
as_l23 v3 fun row1 =>
popN a4 <|
popN bx <|
(eval_Value k e0 row1).bind fun r => K (eval_Value_enc r) []
theorem eval_Value_ok {ρ : Type} (k : Nat) : AnsOK Tryd.prog 24 (eval_Value_an (ρ := ρ) k) := by
  intro args bx K r h
  unfold eval_Value_an at h
  replace h := popA_inv h; obtain ⟨v1, a2, rfl, h⟩ := h
  replace h := as_s25_inv h; obtain ⟨e0, rfl, h⟩ := h
  replace h := popA_inv h; obtain ⟨v3, a4, rfl, h⟩ := h
  replace h := as_l23_inv h; obtain ⟨row1, rfl, h⟩ := h
  replace h := popN_inv h; obtain ⟨rfl, h⟩ := h
  replace h := popN_inv h; obtain ⟨rfl, h⟩ := h
  replace h := bind_inv h
  obtain ⟨x, hx, h⟩ := h
  exact ⟨there_of Tryd.func24 (by kernel_rfl) eval_Value_body, _, _, h, eval_Value_con k e0 row1 x hx⟩

/-! cadastre/eval.Eval -/
noncomputable def eval_Eval_code : Code := match Tryd.f11.body with | some c => c | none => .skip
theorem eval_Eval_body : Tryd.f11.body = some eval_Eval_code := by kernel_rfl
noncomputable def eval_Eval_G {ρ : Type} (k : Nat) : Ans UX ρ := gk 23 (eval_may_an k) (gk 24 (eval_Value_an k) (gnil))
theorem eval_Eval_gok {ρ : Type} (k : Nat) : GOK Tryd.prog (eval_Eval_G (ρ := ρ) k) := gok_cons (eval_may_ok k) (gok_cons (eval_Value_ok k) (gok_nil))
noncomputable def eval_Eval_cfg {ρ : Type} (k : Nat) : Cfg UX ρ where
  live i := (assoc [(0, [0, 1]), (1, [1, 2, 4]), (2, [4]), (3, [1, 2, 4])] i).getD []
  boxes i := (assoc [(0, []), (1, [2, 4]), (2, [4]), (3, [2, 4])] i).getD []
  tk i := (assoc [] i).getD []
  n := 16
  labelR l := (assoc [] l).getD 0
  loops := assoc []
  labels := assoc []
  joins := assoc []
  xl i e := match e with
    | .nxt => assoc [] i
    | .ret => assoc [] i
    | .exit j => (assoc [] i).bind fun l => assoc l j
    | .goto j => (assoc [] i).bind fun l => assoc l j
noncomputable def eval_Eval_L : List Code := selI [] (loopsOf eval_Eval_code)
noncomputable def eval_Eval_J : List Code := selI [] (joinsOf eval_Eval_code)
noncomputable def eval_Eval_S : List Code := scopesOf eval_Eval_code
theorem eval_Eval_cok {ρ : Type} (k : Nat) : COK (eval_Eval_cfg (ρ := ρ) k) (eval_Eval_G k) eval_Eval_code :=
  cok_of (tl := []) (tj := []) (tb := []) rfl rfl rfl (nil_all (by kernel_rfl)) (nil_all (by kernel_rfl)) (fun p hp => by cases hp)
noncomputable def eval_Eval_enc (r : S23 × Int) : AV UU := .pv (.tup [.typ (.s23 r.1), .int .i64 r.2])
noncomputable def eval_Eval_dec (v : AV UU) (_ : List (List (AV UU))) : Option (S23 × Int) :=
asT v fun q1 =>
popA q1 fun p2 q3 =>
as_s23 (.pv p2) fun r0 =>
popA q3 fun p4 q5 =>
asI .i64 (.pv p4) fun r1 =>
popN q5 <|
some (r0, r1)
theorem eval_Eval_dec_enc (v : AV UU) (b : List (List (AV UU))) (r : S23 × Int) (h : eval_Eval_dec v b = some r) : v = eval_Eval_enc r := by
  unfold eval_Eval_dec at h
  replace h := asT_inv h; obtain ⟨q1, rfl, h⟩ := h
  replace h := popA_inv h; obtain ⟨p2, q3, rfl, h⟩ := h
  replace h := as_s23_inv h; obtain ⟨r0, e, h⟩ := h; cases e
  replace h := popA_inv h; obtain ⟨p4, q5, rfl, h⟩ := h
  replace h := asI_inv h; obtain ⟨r1, e, h⟩ := h; cases e
  replace h := popN_inv h; obtain ⟨rfl, h⟩ := h
  cases h
  rfl
theorem eval_Eval_eq (k : Nat) (e0 : S25) (row1 : List S23) : bodyK UX (eval_Eval_cfg k) (eval_Eval_G k) Tryd.f11 [.pv (.typ (.s25 e0)), .pv (.typ (.l23 row1))] [] eval_Eval_dec = eval_Eval k e0 row1 := by kernel_rfl
theorem eval_Eval_con (k : Nat) (e0 : S25) (row1 : List S23) (r : S23 × Int) (h : eval_Eval k e0 row1 = some r) : Con (X := UX) Tryd.prog 11 [.pv (.typ (.s25 e0)), .pv (.typ (.l23 row1))] [] (eval_Eval_enc r) [] :=
  con_of_body xok tok Tryd.func11 eval_Eval_body (eval_Eval_gok k) rfl (eval_Eval_cok k) (of_decide_eq_true (by kernel_rfl)) eval_Eval_dec_enc ((eval_Eval_eq k e0 row1).trans h)
noncomputable def eval_Eval_an {ρ : Type} (k : Nat) : An UX ρ := fun args bx K =>
popA args fun v1 a2 =>
as_s25 v1 fun e0 =>
popA a2 fun v3 a4 =>
as_l23 v3 fun row1 =>
popN a4 <|
popN bx <|
(eval_Eval k e0 row1).bind fun r => K (eval_Eval_enc r) []
theorem eval_Eval_ok {ρ : Type} (k : Nat) : AnsOK Tryd.prog 11 (eval_Eval_an (ρ := ρ) k) := by
  intro args bx K r h
  unfold eval_Eval_an at h
  replace h := popA_inv h; obtain ⟨v1, a2, rfl, h⟩ := h
  replace h := as_s25_inv h; obtain ⟨e0, rfl, h⟩ := h
  replace h := popA_inv h; obtain ⟨v3, a4, rfl, h⟩ := h
  replace h := as_l23_inv h; obtain ⟨row1, rfl, h⟩ := h
  replace h := popN_inv h; obtain ⟨rfl, h⟩ := h
  replace h := popN_inv h; obtain ⟨rfl, h⟩ := h
  replace h := bind_inv h
  obtain ⟨x, hx, h⟩ := h
  exact ⟨there_of Tryd.func11 (by kernel_rfl) eval_Eval_body, _, _, h, eval_Eval_con k e0 row1 x hx⟩

/-! cadastre/logic.True -/
noncomputable def logic_True_code : Code := match Tryd.f42.body with | some c => c | none => .skip
theorem logic_True_body : Tryd.f42.body = some logic_True_code := by kernel_rfl
noncomputable def logic_True_G {ρ : Type} (k : Nat) : Ans UX ρ := gk 74 (logic_truth_an k) (gnil)
theorem logic_True_gok {ρ : Type} (k : Nat) : GOK Tryd.prog (logic_True_G (ρ := ρ) k) := gok_cons (logic_truth_ok k) (gok_nil)
noncomputable def logic_True_cfg {ρ : Type} (k : Nat) : Cfg UX ρ where
  live i := (assoc [(0, [0]), (1, [1]), (2, [4, 5])] i).getD []
  boxes i := (assoc [(0, []), (1, [1]), (2, [])] i).getD []
  tk i := (assoc [] i).getD []
  n := 18
  labelR l := (assoc [] l).getD 0
  loops := assoc []
  labels := assoc []
  joins := assoc []
  xl i e := match e with
    | .nxt => assoc [] i
    | .ret => assoc [] i
    | .exit j => (assoc [] i).bind fun l => assoc l j
    | .goto j => (assoc [] i).bind fun l => assoc l j
noncomputable def logic_True_L : List Code := selI [] (loopsOf logic_True_code)
noncomputable def logic_True_J : List Code := selI [] (joinsOf logic_True_code)
noncomputable def logic_True_S : List Code := scopesOf logic_True_code
theorem logic_True_cok {ρ : Type} (k : Nat) : COK (logic_True_cfg (ρ := ρ) k) (logic_True_G k) logic_True_code :=
  cok_of (tl := []) (tj := []) (tb := []) rfl rfl rfl (nil_all (by kernel_rfl)) (nil_all (by kernel_rfl)) (fun p hp => by cases hp)
noncomputable def logic_True_enc (r : Bool × Int) : AV UU := .pv (.tup [.bool r.1, .int .i64 r.2])
noncomputable def logic_True_dec (v : AV UU) (_ : List (List (AV UU))) : Option (Bool × Int) :=
asT v fun q1 =>
popA q1 fun p2 q3 =>
asB (.pv p2) fun r0 =>
popA q3 fun p4 q5 =>
asI .i64 (.pv p4) fun r1 =>
popN q5 <|
some (r0, r1)
theorem logic_True_dec_enc (v : AV UU) (b : List (List (AV UU))) (r : Bool × Int) (h : logic_True_dec v b = some r) : v = logic_True_enc r := by
  unfold logic_True_dec at h
  replace h := asT_inv h; obtain ⟨q1, rfl, h⟩ := h
  replace h := popA_inv h; obtain ⟨p2, q3, rfl, h⟩ := h
  replace h := asB_inv h; obtain ⟨r0, e, h⟩ := h; cases e
  replace h := popA_inv h; obtain ⟨p4, q5, rfl, h⟩ := h
  replace h := asI_inv h; obtain ⟨r1, e, h⟩ := h; cases e
  replace h := popN_inv h; obtain ⟨rfl, h⟩ := h
  cases h
  rfl
theorem logic_True_eq (k : Nat) (v0 : S23) : bodyK UX (logic_True_cfg k) (logic_True_G k) Tryd.f42 [.pv (.typ (.s23 v0))] [] logic_True_dec = logic_True k v0 := by kernel_rfl
theorem logic_True_con (k : Nat) (v0 : S23) (r : Bool × Int) (h : logic_True k v0 = some r) : Con (X := UX) Tryd.prog 42 [.pv (.typ (.s23 v0))] [] (logic_True_enc r) [] :=
  con_of_body xok tok Tryd.func42 logic_True_body (logic_True_gok k) rfl (logic_True_cok k) (of_decide_eq_true (by kernel_rfl)) logic_True_dec_enc ((logic_True_eq k v0).trans h)
noncomputable def logic_True_an {ρ : Type} (k : Nat) : An UX ρ := fun args bx K =>
popA args fun v1 a2 =>
as_s23 v1 fun v0 =>
popN a2 <|
popN bx <|
(logic_True k v0).bind fun r => K (logic_True_enc r) []
theorem logic_True_ok {ρ : Type} (k : Nat) : AnsOK Tryd.prog 42 (logic_True_an (ρ := ρ) k) := by
  intro args bx K r h
  unfold logic_True_an at h
  replace h := popA_inv h; obtain ⟨v1, a2, rfl, h⟩ := h
  replace h := as_s23_inv h; obtain ⟨v0, rfl, h⟩ := h
  replace h := popN_inv h; obtain ⟨rfl, h⟩ := h
  replace h := popN_inv h; obtain ⟨rfl, h⟩ := h
  replace h := bind_inv h
  obtain ⟨x, hx, h⟩ := h
  exact ⟨there_of Tryd.func42 (by kernel_rfl) logic_True_body, _, _, h, logic_True_con k v0 x hx⟩

/-! cadastre/eval.True -/
noncomputable def eval_True_code : Code := match Tryd.f26.body with | some c => c | none => .skip
theorem eval_True_body : Tryd.f26.body = some eval_True_code := by kernel_rfl
noncomputable def eval_True_G {ρ : Type} (k : Nat) : Ans UX ρ := gk 24 (eval_Value_an k) (gk 42 (logic_True_an k) (gnil))
theorem eval_True_gok {ρ : Type} (k : Nat) : GOK Tryd.prog (eval_True_G (ρ := ρ) k) := gok_cons (eval_Value_ok k) (gok_cons (logic_True_ok k) (gok_nil))
noncomputable def eval_True_cfg {ρ : Type} (k : Nat) : Cfg UX ρ where
  live i := (assoc [(0, [0, 1]), (1, [1, 2]), (2, [5, 6]), (3, []), (4, [5]), (5, [7])] i).getD []
  boxes i := (assoc [(0, []), (1, [2]), (2, [5]), (3, []), (4, [5]), (5, [])] i).getD []
  tk i := (assoc [] i).getD []
  n := 23
  labelR l := (assoc [] l).getD 0
  loops := assoc []
  labels := assoc []
  joins := assoc []
  xl i e := match e with
    | .nxt => assoc [] i
    | .ret => assoc [] i
    | .exit j => (assoc [] i).bind fun l => assoc l j
    | .goto j => (assoc [] i).bind fun l => assoc l j
noncomputable def eval_True_L : List Code := selI [] (loopsOf eval_True_code)
noncomputable def eval_True_J : List Code := selI [] (joinsOf eval_True_code)
noncomputable def eval_True_S : List Code := scopesOf eval_True_code
theorem eval_True_cok {ρ : Type} (k : Nat) : COK (eval_True_cfg (ρ := ρ) k) (eval_True_G k) eval_True_code :=
  cok_of (tl := []) (tj := []) (tb := []) rfl rfl rfl (nil_all (by kernel_rfl)) (nil_all (by kernel_rfl)) (fun p hp => by cases hp)
noncomputable def eval_True_enc (r : Bool) : AV UU := .pv (.bool r)
noncomputable def eval_True_dec (v : AV UU) (_ : List (List (AV UU))) : Option Bool :=
asB v fun r0 =>
some r0
theorem eval_True_dec_enc (v : AV UU) (b : List (List (AV UU))) (r : Bool) (h : eval_True_dec v b = some r) : v = eval_True_enc r := by
  unfold eval_True_dec at h
  replace h := asB_inv h; obtain ⟨r0, rfl, h⟩ := h
  cases h
  rfl
theorem eval_True_eq (k : Nat) (e0 : S25) (row1 : List S23) : bodyK UX (eval_True_cfg k) (eval_True_G k) Tryd.f26 [.pv (.typ (.s25 e0)), .pv (.typ (.l23 row1))] [] eval_True_dec = eval_True k e0 row1 := by kernel_rfl
theorem eval_True_con (k : Nat) (e0 : S25) (row1 : List S23) (r : Bool) (h : eval_True k e0 row1 = some r) : Con (X := UX) Tryd.prog 26 [.pv (.typ (.s25 e0)), .pv (.typ (.l23 row1))] [] (eval_True_enc r) [] :=
  con_of_body xok tok Tryd.func26 eval_True_body (eval_True_gok k) rfl (eval_True_cok k) (of_decide_eq_true (by kernel_rfl)) eval_True_dec_enc ((eval_True_eq k e0 row1).trans h)
noncomputable def eval_True_an {ρ : Type} (k : Nat) : An UX ρ := fun args bx K =>
popA args fun v1 a2 =>
as_s25 v1 fun e0 =>
popA a2 fun v3 a4 =>
as_l23 v3 fun row1 =>
popN a4 <|
popN bx <|
(eval_True k e0 row1).bind fun r => K (eval_True_enc r) []
theorem eval_True_ok {ρ : Type} (k : Nat) : AnsOK Tryd.prog 26 (eval_True_an (ρ := ρ) k) := by
  intro args bx K r h
  unfold eval_True_an at h
  replace h := popA_inv h; obtain ⟨v1, a2, rfl, h⟩ := h
  replace h := as_s25_inv h; obtain ⟨e0, rfl, h⟩ := h
  replace h := popA_inv h; obtain ⟨v3, a4, rfl, h⟩ := h
  replace h := as_l23_inv h; obtain ⟨row1, rfl, h⟩ := h
  replace h := popN_inv h; obtain ⟨rfl, h⟩ := h
  replace h := popN_inv h; obtain ⟨rfl, h⟩ := h
  replace h := bind_inv h
  obtain ⟨x, hx, h⟩ := h
  exact ⟨there_of Tryd.func26 (by kernel_rfl) eval_True_body, _, _, h, eval_True_con k e0 row1 x hx⟩

/-! cadastre/eval.Lets -/
noncomputable def eval_Lets_code : Code := match Tryd.f17.body with | some c => c | none => .skip
theorem eval_Lets_body : Tryd.f17.body = some eval_Lets_code := by kernel_rfl
noncomputable def eval_Lets_G {ρ : Type} (k : Nat) : Ans UX ρ := gk 23 (eval_may_an k) (gk 26 (eval_True_an k) (gnil))
theorem eval_Lets_gok {ρ : Type} (k : Nat) : GOK Tryd.prog (eval_Lets_G (ρ := ρ) k) := gok_cons (eval_may_ok k) (gok_cons (eval_True_ok k) (gok_nil))
noncomputable def eval_Lets_cfg {ρ : Type} (k : Nat) : Cfg UX ρ where
  live i := (assoc [(0, [0, 1]), (1, [1, 2]), (2, []), (3, [1, 2])] i).getD []
  boxes i := (assoc [(0, []), (1, [2]), (2, []), (3, [2])] i).getD []
  tk i := (assoc [] i).getD []
  n := 13
  labelR l := (assoc [] l).getD 0
  loops := assoc []
  labels := assoc []
  joins := assoc []
  xl i e := match e with
    | .nxt => assoc [] i
    | .ret => assoc [] i
    | .exit j => (assoc [] i).bind fun l => assoc l j
    | .goto j => (assoc [] i).bind fun l => assoc l j
noncomputable def eval_Lets_L : List Code := selI [] (loopsOf eval_Lets_code)
noncomputable def eval_Lets_J : List Code := selI [] (joinsOf eval_Lets_code)
noncomputable def eval_Lets_S : List Code := scopesOf eval_Lets_code
theorem eval_Lets_cok {ρ : Type} (k : Nat) : COK (eval_Lets_cfg (ρ := ρ) k) (eval_Lets_G k) eval_Lets_code :=
  cok_of (tl := []) (tj := []) (tb := []) rfl rfl rfl (nil_all (by kernel_rfl)) (nil_all (by kernel_rfl)) (fun p hp => by cases hp)
noncomputable def eval_Lets_enc (r : Bool × Int) : AV UU := .pv (.tup [.bool r.1, .int .i64 r.2])
noncomputable def eval_Lets_dec (v : AV UU) (_ : List (List (AV UU))) : Option (Bool × Int) :=
asT v fun q1 =>
popA q1 fun p2 q3 =>
asB (.pv p2) fun r0 =>
popA q3 fun p4 q5 =>
asI .i64 (.pv p4) fun r1 =>
popN q5 <|
some (r0, r1)
theorem eval_Lets_dec_enc (v : AV UU) (b : List (List (AV UU))) (r : Bool × Int) (h : eval_Lets_dec v b = some r) : v = eval_Lets_enc r := by
  unfold eval_Lets_dec at h
  replace h := asT_inv h; obtain ⟨q1, rfl, h⟩ := h
  replace h := popA_inv h; obtain ⟨p2, q3, rfl, h⟩ := h
  replace h := asB_inv h; obtain ⟨r0, e, h⟩ := h; cases e
  replace h := popA_inv h; obtain ⟨p4, q5, rfl, h⟩ := h
  replace h := asI_inv h; obtain ⟨r1, e, h⟩ := h; cases e
  replace h := popN_inv h; obtain ⟨rfl, h⟩ := h
  cases h
  rfl
theorem eval_Lets_eq (k : Nat) (e0 : S25) (row1 : List S23) : bodyK UX (eval_Lets_cfg k) (eval_Lets_G k) Tryd.f17 [.pv (.typ (.s25 e0)), .pv (.typ (.l23 row1))] [] eval_Lets_dec = eval_Lets k e0 row1 := by kernel_rfl
theorem eval_Lets_con (k : Nat) (e0 : S25) (row1 : List S23) (r : Bool × Int) (h : eval_Lets k e0 row1 = some r) : Con (X := UX) Tryd.prog 17 [.pv (.typ (.s25 e0)), .pv (.typ (.l23 row1))] [] (eval_Lets_enc r) [] :=
  con_of_body xok tok Tryd.func17 eval_Lets_body (eval_Lets_gok k) rfl (eval_Lets_cok k) (of_decide_eq_true (by kernel_rfl)) eval_Lets_dec_enc ((eval_Lets_eq k e0 row1).trans h)
noncomputable def eval_Lets_an {ρ : Type} (k : Nat) : An UX ρ := fun args bx K =>
popA args fun v1 a2 =>
as_s25 v1 fun e0 =>
popA a2 fun v3 a4 =>
as_l23 v3 fun row1 =>
popN a4 <|
popN bx <|
(eval_Lets k e0 row1).bind fun r => K (eval_Lets_enc r) []
theorem eval_Lets_ok {ρ : Type} (k : Nat) : AnsOK Tryd.prog 17 (eval_Lets_an (ρ := ρ) k) := by
  intro args bx K r h
  unfold eval_Lets_an at h
  replace h := popA_inv h; obtain ⟨v1, a2, rfl, h⟩ := h
  replace h := as_s25_inv h; obtain ⟨e0, rfl, h⟩ := h
  replace h := popA_inv h; obtain ⟨v3, a4, rfl, h⟩ := h
  replace h := as_l23_inv h; obtain ⟨row1, rfl, h⟩ := h
  replace h := popN_inv h; obtain ⟨rfl, h⟩ := h
  replace h := popN_inv h; obtain ⟨rfl, h⟩ := h
  replace h := bind_inv h
  obtain ⟨x, hx, h⟩ := h
  exact ⟨there_of Tryd.func17 (by kernel_rfl) eval_Lets_body, _, _, h, eval_Lets_con k e0 row1 x hx⟩
end Go.Proofs.YtnoeedkbadoogaaDoor.E
