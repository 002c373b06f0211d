/-
  What the program's functions answer: the printed functions' answers.
-/
import Derived.Test.YtnoeedkbadoogaaDoorEG4
namespace Go.Proofs.YtnoeedkbadoogaaDoor.E
open Go Go.AX
/-! cadastre/eval.Un -/
noncomputable def eval_Un_code : Code := match Tryd.f40.body with | some c => c | none => .skip
theorem eval_Un_body : Tryd.f40.body = some eval_Un_code := by kernel_rfl
noncomputable def eval_Un_G {ρ : Type} (k : Nat) : Ans UX ρ := gk 65 (arith_Neg_an k) (gk 66 (logic_Not_an k) (gk 67 (arith_Length_an k) (gk 68 (arith_Typeof_an k) (gk 69 (logic_Null_an k) (gnil)))))
theorem eval_Un_gok {ρ : Type} (k : Nat) : GOK Tryd.prog (eval_Un_G (ρ := ρ) k) := gok_cons (arith_Neg_ok k) (gok_cons (logic_Not_ok k) (gok_cons (arith_Length_ok k) (gok_cons (arith_Typeof_ok k) (gok_cons (logic_Null_ok k) (gok_nil)))))
noncomputable def eval_Un_cfg {ρ : Type} (k : Nat) : Cfg UX ρ where
  live i := (assoc [(0, [0, 1]), (1, [0, 3, 4]), (2, [0, 3, 4, 6]), (3, [3, 4]), (4, [0, 3, 4, 6]), (5, [3, 4]), (6, [0, 3, 4, 6]), (7, [3, 4]), (8, [0, 3, 4, 6]), (9, [3, 4]), (10, [0, 3, 4])] i).getD []
  boxes i := (assoc [(0, []), (1, [3, 4]), (2, [3, 4]), (3, [3, 4]), (4, [3, 4]), (5, [3, 4]), (6, [3, 4]), (7, [3, 4]), (8, [3, 4]), (9, [3, 4]), (10, [3, 4])] i).getD []
  tk i := (assoc [] i).getD []
  n := 36
  labelR l := (assoc [] l).getD 0
  loops := assoc []
  labels := assoc []
  joins := assoc []
  xl i e := match e with
    | .nxt => assoc [] i
    | .ret => assoc [] i
    | .exit j => (assoc [] i).bind fun l => assoc l j
    | .goto j => (assoc [] i).bind fun l => assoc l j
noncomputable def eval_Un_L : List Code := selI [] (loopsOf eval_Un_code)
noncomputable def eval_Un_J : List Code := selI [] (joinsOf eval_Un_code)
noncomputable def eval_Un_S : List Code := scopesOf eval_Un_code
theorem eval_Un_cok {ρ : Type} (k : Nat) : COK (eval_Un_cfg (ρ := ρ) k) (eval_Un_G k) eval_Un_code :=
  cok_of (tl := []) (tj := []) (tb := []) rfl rfl rfl (nil_all (by kernel_rfl)) (nil_all (by kernel_rfl)) (fun p hp => by cases hp)
noncomputable def eval_Un_enc (r : S23 × Int) : AV UU := .pv (.tup [.typ (.s23 r.1), .int .i64 r.2])
noncomputable def eval_Un_dec (v : AV UU) (_ : List (List (AV UU))) : Option (S23 × Int) :=
asT v fun q1 =>
popA q1 fun p2 q3 =>
as_s23 (.pv p2) fun r0 =>
popA q3 fun p4 q5 =>
asI .i64 (.pv p4) fun r1 =>
popN q5 <|
some (r0, r1)
theorem eval_Un_dec_enc (v : AV UU) (b : List (List (AV UU))) (r : S23 × Int) (h : eval_Un_dec v b = some r) : v = eval_Un_enc r := by
  unfold eval_Un_dec at h
  replace h := asT_inv h; obtain ⟨q1, rfl, h⟩ := h
  replace h := popA_inv h; obtain ⟨p2, q3, rfl, h⟩ := h
  replace h := as_s23_inv h; obtain ⟨r0, e, h⟩ := h; cases e
  replace h := popA_inv h; obtain ⟨p4, q5, rfl, h⟩ := h
  replace h := asI_inv h; obtain ⟨r1, e, h⟩ := h; cases e
  replace h := popN_inv h; obtain ⟨rfl, h⟩ := h
  cases h
  rfl
theorem eval_Un_eq (k : Nat) (op0 : Int) (v1 : S23) : bodyK UX (eval_Un_cfg k) (eval_Un_G k) Tryd.f40 [.pv (.int .i64 op0), .pv (.typ (.s23 v1))] [] eval_Un_dec = eval_Un k op0 v1 := by kernel_rfl
theorem eval_Un_con (k : Nat) (op0 : Int) (v1 : S23) (r : S23 × Int) (h : eval_Un k op0 v1 = some r) : Con (X := UX) Tryd.prog 40 [.pv (.int .i64 op0), .pv (.typ (.s23 v1))] [] (eval_Un_enc r) [] :=
  con_of_body xok tok Tryd.func40 eval_Un_body (eval_Un_gok k) rfl (eval_Un_cok k) (of_decide_eq_true (by kernel_rfl)) eval_Un_dec_enc ((eval_Un_eq k op0 v1).trans h)
noncomputable def eval_Un_an {ρ : Type} (k : Nat) : An UX ρ := fun args bx K =>
popA args fun v1 a2 =>
asI .i64 v1 fun op0 =>
popA a2 fun v3 a4 =>
as_s23 v3 fun v1 =>
popN a4 <|
popN bx <|
(eval_Un k op0 v1).bind fun r => K (eval_Un_enc r) []
theorem eval_Un_ok {ρ : Type} (k : Nat) : AnsOK Tryd.prog 40 (eval_Un_an (ρ := ρ) k) := by
  intro args bx K r h
  unfold eval_Un_an at h
  replace h := popA_inv h; obtain ⟨v1, a2, rfl, h⟩ := h
  replace h := asI_inv h; obtain ⟨op0, rfl, h⟩ := h
  replace h := popA_inv h; obtain ⟨v3, a4, rfl, h⟩ := h
  replace h := as_s23_inv h; obtain ⟨v1, rfl, h⟩ := h
  replace h := popN_inv h; obtain ⟨rfl, h⟩ := h
  replace h := popN_inv h; obtain ⟨rfl, h⟩ := h
  replace h := bind_inv h
  obtain ⟨x, hx, h⟩ := h
  exact ⟨there_of Tryd.func40 (by kernel_rfl) eval_Un_body, _, _, h, eval_Un_con k op0 v1 x hx⟩

/-! cadastre/arith.Concat -/
noncomputable def arith_Concat_code : Code := match Tryd.f70.body with | some c => c | none => .skip
theorem arith_Concat_body : Tryd.f70.body = some arith_Concat_code := by kernel_rfl
noncomputable def arith_Concat_G {ρ : Type} (k : Nat) : Ans UX ρ := gk 38 (value_All_an k) (gk 98 (arith_Text_an k) (gk 99 (value_Text_an k) (gnil)))
theorem arith_Concat_gok {ρ : Type} (k : Nat) : GOK Tryd.prog (arith_Concat_G (ρ := ρ) k) := gok_cons (value_All_ok k) (gok_cons (arith_Text_ok k) (gok_cons (value_Text_ok k) (gok_nil)))
noncomputable def arith_Concat_j5_s {ρ : Type} (k : Nat) : Run UX ρ := fun s K =>
popS 2 s.env fun v1 e2 =>
asP 2 0 v1 <|
popS 3 e2 fun v3 e4 =>
asP 3 0 v3 <|
popS 4 e4 fun v5 e6 =>
asP 4 0 v5 <|
popN e6 <|
popB 2 s.hp fun c7 e8 =>
popA c7 fun v9 c10 =>
asI .i64 v9 fun z11 =>
popA c10 fun v12 c13 =>
asI .i64 v12 fun z14 =>
popA c13 fun v15 c16 =>
asS v15 fun z17 =>
popN c16 <|
popB 3 e8 fun c18 e19 =>
popA c18 fun v20 c21 =>
asI .i64 v20 fun z22 =>
popA c21 fun v23 c24 =>
asI .i64 v23 fun z25 =>
popA c24 fun v26 c27 =>
asS v26 fun z28 =>
popN c27 <|
popB 4 e19 fun c29 e30 =>
popA c29 fun v31 c32 =>
asI .i64 v31 fun z33 =>
popA c32 fun v34 c35 =>
asI .i64 v34 fun z36 =>
popA c35 fun v37 c38 =>
asS v37 fun z39 =>
popN c38 <|
popN e30 <|
arith_Concat_j5 k (fun t5 t4 => K .ret ⟨[(4, .ptr 4 0), (5, .pv (.int .i64 t5))], [(4, [.pv (.int .i64 t4.f0), .pv (.int .i64 t4.f1), .pv (.str t4.f2)])]⟩) (fun a2 b3 t4 => K .nxt ⟨[(2, .ptr 2 0), (3, .ptr 3 0), (4, .ptr 4 0)], [(2, [.pv (.int .i64 a2.f0), .pv (.int .i64 a2.f1), .pv (.str a2.f2)]), (3, [.pv (.int .i64 b3.f0), .pv (.int .i64 b3.f1), .pv (.str b3.f2)]), (4, [.pv (.int .i64 t4.f0), .pv (.int .i64 t4.f1), .pv (.str t4.f2)])]⟩) (⟨z11, z14, z17⟩ : S23) (⟨z22, z25, z28⟩ : S23) (⟨z33, z36, z39⟩ : S23)
noncomputable def arith_Concat_j7_s {ρ : Type} (k : Nat) : Run UX ρ := fun s K =>
popS 2 s.env fun v1 e2 =>
asP 2 0 v1 <|
popS 3 e2 fun v3 e4 =>
asP 3 0 v3 <|
popS 4 e4 fun v5 e6 =>
asP 4 0 v5 <|
popN e6 <|
popB 2 s.hp fun c7 e8 =>
popA c7 fun v9 c10 =>
asI .i64 v9 fun z11 =>
popA c10 fun v12 c13 =>
asI .i64 v12 fun z14 =>
popA c13 fun v15 c16 =>
asS v15 fun z17 =>
popN c16 <|
popB 3 e8 fun c18 e19 =>
popA c18 fun v20 c21 =>
asI .i64 v20 fun z22 =>
popA c21 fun v23 c24 =>
asI .i64 v23 fun z25 =>
popA c24 fun v26 c27 =>
asS v26 fun z28 =>
popN c27 <|
popB 4 e19 fun c29 e30 =>
popA c29 fun v31 c32 =>
asI .i64 v31 fun z33 =>
popA c32 fun v34 c35 =>
asI .i64 v34 fun z36 =>
popA c35 fun v37 c38 =>
asS v37 fun z39 =>
popN c38 <|
popN e30 <|
arith_Concat_j7 k (fun t5 t4 => K .ret ⟨[(4, .ptr 4 0), (5, .pv (.int .i64 t5))], [(4, [.pv (.int .i64 t4.f0), .pv (.int .i64 t4.f1), .pv (.str t4.f2)])]⟩) (⟨z11, z14, z17⟩ : S23) (⟨z22, z25, z28⟩ : S23) (⟨z33, z36, z39⟩ : S23)
noncomputable def arith_Concat_cfg {ρ : Type} (k : Nat) : Cfg UX ρ where
  live i := (assoc [(0, [0, 1]), (1, [2, 3, 4]), (2, [4]), (3, [2, 3, 4]), (4, [4]), (5, [2, 3, 4]), (6, [4]), (7, [2, 3, 4]), (8, [3, 4, 6]), (9, [4, 6, 8]), (10, [4]), (11, [4, 6, 8])] i).getD []
  boxes i := (assoc [(0, []), (1, [2, 3, 4]), (2, [4]), (3, [2, 3, 4]), (4, [4]), (5, [2, 3, 4]), (6, [4]), (7, [2, 3, 4]), (8, [3, 4, 6]), (9, [4, 6, 8]), (10, [4]), (11, [4, 6, 8])] i).getD []
  tk i := (assoc [] i).getD []
  n := 62
  labelR l := (assoc [] l).getD 0
  loops := assoc []
  labels := assoc []
  joins := assoc [(5, arith_Concat_j5_s k), (7, arith_Concat_j7_s k)]
  xl i e := match e with
    | .nxt => assoc [(5, ([2, 3, 4], [2, 3, 4]))] i
    | .ret => assoc [(5, ([4, 5], [4])), (7, ([4, 5], [4]))] i
    | .exit j => (assoc [] i).bind fun l => assoc l j
    | .goto j => (assoc [] i).bind fun l => assoc l j
noncomputable def arith_Concat_L : List Code := selI [] (loopsOf arith_Concat_code)
noncomputable def arith_Concat_J : List Code := selI [5, 7] (joinsOf arith_Concat_code)
noncomputable def arith_Concat_S : List Code := scopesOf arith_Concat_code
theorem arith_Concat_j7_eq0 {ρ : Type} (k : Nat) (K : Ex → St UU → Option ρ) (a2 : S23) (b3 : S23) (t4 : S23) : exec UX (arith_Concat_cfg k) (arith_Concat_G k) (arith_Concat_J.getD 0 .skip) ⟨[(2, .ptr 2 0), (3, .ptr 3 0), (4, .ptr 4 0)], [(2, [.pv (.int .i64 a2.f0), .pv (.int .i64 a2.f1), .pv (.str a2.f2)]), (3, [.pv (.int .i64 b3.f0), .pv (.int .i64 b3.f1), .pv (.str b3.f2)]), (4, [.pv (.int .i64 t4.f0), .pv (.int .i64 t4.f1), .pv (.str t4.f2)])]⟩ (nrmK UX (arith_Concat_cfg k) 7 K) = arith_Concat_j7 k (fun t5 t4 => K .ret ⟨[(4, .ptr 4 0), (5, .pv (.int .i64 t5))], [(4, [.pv (.int .i64 t4.f0), .pv (.int .i64 t4.f1), .pv (.str t4.f2)])]⟩) a2 b3 t4 := by kernel_rfl
theorem arith_Concat_j7_ok0 {ρ : Type} (k : Nat) : JoinOK UX (arith_Concat_cfg (ρ := ρ) k) (arith_Concat_G k) (arith_Concat_J.getD 0 .skip) 7 (arith_Concat_j7_s k) := by
  intro s K r h
  obtain ⟨env, hp⟩ := s
  unfold arith_Concat_j7_s at h
  replace h := popS_inv h; obtain ⟨v1, e2, rfl, h⟩ := h
  replace h := asP_inv h; obtain ⟨rfl, h⟩ := h
  replace h := popS_inv h; obtain ⟨v3, e4, rfl, h⟩ := h
  replace h := asP_inv h; obtain ⟨rfl, h⟩ := h
  replace h := popS_inv h; obtain ⟨v5, e6, rfl, h⟩ := h
  replace h := asP_inv h; obtain ⟨rfl, h⟩ := h
  replace h := popN_inv h; obtain ⟨rfl, h⟩ := h
  replace h := popB_inv h; obtain ⟨c7, e8, rfl, h⟩ := h
  replace h := popA_inv h; obtain ⟨v9, c10, rfl, h⟩ := h
  replace h := asI_inv h; obtain ⟨z11, rfl, h⟩ := h
  replace h := popA_inv h; obtain ⟨v12, c13, rfl, h⟩ := h
  replace h := asI_inv h; obtain ⟨z14, rfl, h⟩ := h
  replace h := popA_inv h; obtain ⟨v15, c16, rfl, h⟩ := h
  replace h := asS_inv h; obtain ⟨z17, rfl, h⟩ := h
  replace h := popN_inv h; obtain ⟨rfl, h⟩ := h
  replace h := popB_inv h; obtain ⟨c18, e19, rfl, h⟩ := h
  replace h := popA_inv h; obtain ⟨v20, c21, rfl, h⟩ := h
  replace h := asI_inv h; obtain ⟨z22, rfl, h⟩ := h
  replace h := popA_inv h; obtain ⟨v23, c24, rfl, h⟩ := h
  replace h := asI_inv h; obtain ⟨z25, rfl, h⟩ := h
  replace h := popA_inv h; obtain ⟨v26, c27, rfl, h⟩ := h
  replace h := asS_inv h; obtain ⟨z28, rfl, h⟩ := h
  replace h := popN_inv h; obtain ⟨rfl, h⟩ := h
  replace h := popB_inv h; obtain ⟨c29, e30, rfl, h⟩ := h
  replace h := popA_inv h; obtain ⟨v31, c32, rfl, h⟩ := h
  replace h := asI_inv h; obtain ⟨z33, rfl, h⟩ := h
  replace h := popA_inv h; obtain ⟨v34, c35, rfl, h⟩ := h
  replace h := asI_inv h; obtain ⟨z36, rfl, h⟩ := h
  replace h := popA_inv h; obtain ⟨v37, c38, rfl, h⟩ := h
  replace h := asS_inv h; obtain ⟨z39, rfl, h⟩ := h
  replace h := popN_inv h; obtain ⟨rfl, h⟩ := h
  replace h := popN_inv h; obtain ⟨rfl, h⟩ := h
  exact (arith_Concat_j7_eq0 k K (⟨z11, z14, z17⟩ : S23) (⟨z22, z25, z28⟩ : S23) (⟨z33, z36, z39⟩ : S23)).trans h
theorem arith_Concat_j5_eq1 {ρ : Type} (k : Nat) (K : Ex → St UU → Option ρ) (a2 : S23) (b3 : S23) (t4 : S23) : exec UX (arith_Concat_cfg k) (arith_Concat_G k) (arith_Concat_J.getD 1 .skip) ⟨[(2, .ptr 2 0), (3, .ptr 3 0), (4, .ptr 4 0)], [(2, [.pv (.int .i64 a2.f0), .pv (.int .i64 a2.f1), .pv (.str a2.f2)]), (3, [.pv (.int .i64 b3.f0), .pv (.int .i64 b3.f1), .pv (.str b3.f2)]), (4, [.pv (.int .i64 t4.f0), .pv (.int .i64 t4.f1), .pv (.str t4.f2)])]⟩ (nrmK UX (arith_Concat_cfg k) 5 K) = arith_Concat_j5 k (fun t5 t4 => K .ret ⟨[(4, .ptr 4 0), (5, .pv (.int .i64 t5))], [(4, [.pv (.int .i64 t4.f0), .pv (.int .i64 t4.f1), .pv (.str t4.f2)])]⟩) (fun a2 b3 t4 => K .nxt ⟨[(2, .ptr 2 0), (3, .ptr 3 0), (4, .ptr 4 0)], [(2, [.pv (.int .i64 a2.f0), .pv (.int .i64 a2.f1), .pv (.str a2.f2)]), (3, [.pv (.int .i64 b3.f0), .pv (.int .i64 b3.f1), .pv (.str b3.f2)]), (4, [.pv (.int .i64 t4.f0), .pv (.int .i64 t4.f1), .pv (.str t4.f2)])]⟩) a2 b3 t4 := by kernel_rfl
theorem arith_Concat_j5_ok1 {ρ : Type} (k : Nat) : JoinOK UX (arith_Concat_cfg (ρ := ρ) k) (arith_Concat_G k) (arith_Concat_J.getD 1 .skip) 5 (arith_Concat_j5_s k) := by
  intro s K r h
  obtain ⟨env, hp⟩ := s
  unfold arith_Concat_j5_s at h
  replace h := popS_inv h; obtain ⟨v1, e2, rfl, h⟩ := h
  replace h := asP_inv h; obtain ⟨rfl, h⟩ := h
  replace h := popS_inv h; obtain ⟨v3, e4, rfl, h⟩ := h
  replace h := asP_inv h; obtain ⟨rfl, h⟩ := h
  replace h := popS_inv h; obtain ⟨v5, e6, rfl, h⟩ := h
  replace h := asP_inv h; obtain ⟨rfl, h⟩ := h
  replace h := popN_inv h; obtain ⟨rfl, h⟩ := h
  replace h := popB_inv h; obtain ⟨c7, e8, rfl, h⟩ := h
  replace h := popA_inv h; obtain ⟨v9, c10, rfl, h⟩ := h
  replace h := asI_inv h; obtain ⟨z11, rfl, h⟩ := h
  replace h := popA_inv h; obtain ⟨v12, c13, rfl, h⟩ := h
  replace h := asI_inv h; obtain ⟨z14, rfl, h⟩ := h
  replace h := popA_inv h; obtain ⟨v15, c16, rfl, h⟩ := h
  replace h := asS_inv h; obtain ⟨z17, rfl, h⟩ := h
  replace h := popN_inv h; obtain ⟨rfl, h⟩ := h
  replace h := popB_inv h; obtain ⟨c18, e19, rfl, h⟩ := h
  replace h := popA_inv h; obtain ⟨v20, c21, rfl, h⟩ := h
  replace h := asI_inv h; obtain ⟨z22, rfl, h⟩ := h
  replace h := popA_inv h; obtain ⟨v23, c24, rfl, h⟩ := h
  replace h := asI_inv h; obtain ⟨z25, rfl, h⟩ := h
  replace h := popA_inv h; obtain ⟨v26, c27, rfl, h⟩ := h
  replace h := asS_inv h; obtain ⟨z28, rfl, h⟩ := h
  replace h := popN_inv h; obtain ⟨rfl, h⟩ := h
  replace h := popB_inv h; obtain ⟨c29, e30, rfl, h⟩ := h
  replace h := popA_inv h; obtain ⟨v31, c32, rfl, h⟩ := h
  replace h := asI_inv h; obtain ⟨z33, rfl, h⟩ := h
  replace h := popA_inv h; obtain ⟨v34, c35, rfl, h⟩ := h
  replace h := asI_inv h; obtain ⟨z36, rfl, h⟩ := h
  replace h := popA_inv h; obtain ⟨v37, c38, rfl, h⟩ := h
  replace h := asS_inv h; obtain ⟨z39, rfl, h⟩ := h
  replace h := popN_inv h; obtain ⟨rfl, h⟩ := h
  replace h := popN_inv h; obtain ⟨rfl, h⟩ := h
  exact (arith_Concat_j5_eq1 k K (⟨z11, z14, z17⟩ : S23) (⟨z22, z25, z28⟩ : S23) (⟨z33, z36, z39⟩ : S23)).trans h
theorem arith_Concat_cok {ρ : Type} (k : Nat) : COK (arith_Concat_cfg (ρ := ρ) k) (arith_Concat_G k) arith_Concat_code :=
  cok_of (tl := []) (tj := [(5, arith_Concat_j5_s k), (7, arith_Concat_j7_s k)]) (tb := []) rfl rfl rfl (nil_all (by kernel_rfl)) (all_nth 2 (by kernel_rfl) ⟨join_case (by kernel_rfl) rfl (arith_Concat_j5_ok1 k), join_case (by kernel_rfl) rfl (arith_Concat_j7_ok0 k), trivial⟩) (fun p hp => by cases hp)
noncomputable def arith_Concat_enc (r : S23 × Int) : AV UU := .pv (.tup [.typ (.s23 r.1), .int .i64 r.2])
noncomputable def arith_Concat_dec (v : AV UU) (_ : List (List (AV UU))) : Option (S23 × Int) :=
asT v fun q1 =>
popA q1 fun p2 q3 =>
as_s23 (.pv p2) fun r0 =>
popA q3 fun p4 q5 =>
asI .i64 (.pv p4) fun r1 =>
popN q5 <|
some (r0, r1)
theorem arith_Concat_dec_enc (v : AV UU) (b : List (List (AV UU))) (r : S23 × Int) (h : arith_Concat_dec v b = some r) : v = arith_Concat_enc r := by
  unfold arith_Concat_dec at h
  replace h := asT_inv h; obtain ⟨q1, rfl, h⟩ := h
  replace h := popA_inv h; obtain ⟨p2, q3, rfl, h⟩ := h
  replace h := as_s23_inv h; obtain ⟨r0, e, h⟩ := h; cases e
  replace h := popA_inv h; obtain ⟨p4, q5, rfl, h⟩ := h
  replace h := asI_inv h; obtain ⟨r1, e, h⟩ := h; cases e
  replace h := popN_inv h; obtain ⟨rfl, h⟩ := h
  cases h
  rfl
theorem arith_Concat_eq (k : Nat) (a0 : S23) (b1 : S23) : bodyK UX (arith_Concat_cfg k) (arith_Concat_G k) Tryd.f70 [.pv (.typ (.s23 a0)), .pv (.typ (.s23 b1))] [] arith_Concat_dec = arith_Concat k a0 b1 := by kernel_rfl
theorem arith_Concat_con (k : Nat) (a0 : S23) (b1 : S23) (r : S23 × Int) (h : arith_Concat k a0 b1 = some r) : Con (X := UX) Tryd.prog 70 [.pv (.typ (.s23 a0)), .pv (.typ (.s23 b1))] [] (arith_Concat_enc r) [] :=
  con_of_body xok tok Tryd.func70 arith_Concat_body (arith_Concat_gok k) rfl (arith_Concat_cok k) (of_decide_eq_true (by kernel_rfl)) arith_Concat_dec_enc ((arith_Concat_eq k a0 b1).trans h)
noncomputable def arith_Concat_an {ρ : Type} (k : Nat) : An UX ρ := fun args bx K =>
popA args fun v1 a2 =>
as_s23 v1 fun a0 =>
popA a2 fun v3 a4 =>
as_s23 v3 fun b1 =>
popN a4 <|
popN bx <|
(arith_Concat k a0 b1).bind fun r => K (arith_Concat_enc r) []
theorem arith_Concat_ok {ρ : Type} (k : Nat) : AnsOK Tryd.prog 70 (arith_Concat_an (ρ := ρ) k) := by
  intro args bx K r h
  unfold arith_Concat_an at h
  replace h := popA_inv h; obtain ⟨v1, a2, rfl, h⟩ := h
  replace h := as_s23_inv h; obtain ⟨a0, rfl, h⟩ := h
  replace h := popA_inv h; obtain ⟨v3, a4, rfl, h⟩ := h
  replace h := as_s23_inv h; obtain ⟨b1, rfl, h⟩ := h
  replace h := popN_inv h; obtain ⟨rfl, h⟩ := h
  replace h := popN_inv h; obtain ⟨rfl, h⟩ := h
  replace h := bind_inv h
  obtain ⟨x, hx, h⟩ := h
  exact ⟨there_of Tryd.func70 (by kernel_rfl) arith_Concat_body, _, _, h, arith_Concat_con k a0 b1 x hx⟩

/-! cadastre/arith.reckon -/
noncomputable def arith_reckon_code : Code := match Tryd.f101.body with | some c => c | none => .skip
theorem arith_reckon_body : Tryd.f101.body = some arith_reckon_code := by kernel_rfl
noncomputable def arith_reckon_G {ρ : Type} (k : Nat) : Ans UX ρ := gnil
theorem arith_reckon_gok {ρ : Type} (k : Nat) : GOK Tryd.prog (arith_reckon_G (ρ := ρ) k) := gok_nil
noncomputable def arith_reckon_j18_s {ρ : Type} (k : Nat) : Run UX ρ := fun s K =>
popS 6 s.env fun v1 e2 =>
asI .i64 v1 fun n6 =>
popN e2 <|
popN s.hp <|
arith_reckon_j18 k (fun n6 e7 => K .ret ⟨[(6, .pv (.int .i64 n6)), (7, .pv (.int .i64 e7))], []⟩) n6
noncomputable def arith_reckon_j13_s {ρ : Type} (k : Nat) : Run UX ρ := fun s K =>
popS 1 s.env fun v1 e2 =>
asI .i64 v1 fun a1 =>
popS 2 e2 fun v3 e4 =>
asI .i64 v3 fun b2 =>
popN e4 <|
popN s.hp <|
arith_reckon_j13 k (K (.goto 0) ⟨[], []⟩) (fun n6 => K .nxt ⟨[(6, .pv (.int .i64 n6))], []⟩) a1 b2
noncomputable def arith_reckon_cfg {ρ : Type} (k : Nat) : Cfg UX ρ where
  live i := (assoc [(0, [0, 1, 2]), (1, [0, 1, 2, 6]), (2, [1, 2, 6]), (3, [1, 2]), (4, [1, 2, 6, 8]), (5, [1, 2]), (6, [1, 2]), (7, [1, 2, 6, 8]), (8, [1, 2]), (9, [1, 2]), (10, [1, 2, 6, 8]), (11, [1, 2]), (12, []), (13, [1, 2]), (14, [1, 2, 6]), (15, [1, 2, 6, 8]), (16, [1, 2]), (17, [1, 2]), (18, [6]), (19, [])] i).getD []
  boxes i := (assoc [(0, []), (1, []), (2, []), (3, []), (4, []), (5, []), (6, []), (7, []), (8, []), (9, []), (10, []), (11, []), (12, []), (13, []), (14, []), (15, []), (16, []), (17, []), (18, []), (19, [])] i).getD []
  tk i := (assoc [] i).getD []
  n := 104
  labelR l := (assoc [] l).getD 0
  loops := assoc []
  labels := assoc []
  joins := assoc [(18, arith_reckon_j18_s k), (13, arith_reckon_j13_s k)]
  xl i e := match e with
    | .nxt => assoc [(13, ([6], []))] i
    | .ret => assoc [(18, ([6, 7], []))] i
    | .exit j => (assoc [] i).bind fun l => assoc l j
    | .goto j => (assoc [(13, [(0, ([], []))])] i).bind fun l => assoc l j
noncomputable def arith_reckon_L : List Code := selI [] (loopsOf arith_reckon_code)
noncomputable def arith_reckon_J : List Code := selI [18, 13] (joinsOf arith_reckon_code)
noncomputable def arith_reckon_S : List Code := scopesOf arith_reckon_code
theorem arith_reckon_j18_eq0 {ρ : Type} (k : Nat) (K : Ex → St UU → Option ρ) (n6 : Int) : exec UX (arith_reckon_cfg k) (arith_reckon_G k) (arith_reckon_J.getD 0 .skip) ⟨[(6, .pv (.int .i64 n6))], []⟩ (nrmK UX (arith_reckon_cfg k) 18 K) = arith_reckon_j18 k (fun n6 e7 => K .ret ⟨[(6, .pv (.int .i64 n6)), (7, .pv (.int .i64 e7))], []⟩) n6 := by kernel_rfl
theorem arith_reckon_j18_ok0 {ρ : Type} (k : Nat) : JoinOK UX (arith_reckon_cfg (ρ := ρ) k) (arith_reckon_G k) (arith_reckon_J.getD 0 .skip) 18 (arith_reckon_j18_s k) := by
  intro s K r h
  obtain ⟨env, hp⟩ := s
  unfold arith_reckon_j18_s at h
  replace h := popS_inv h; obtain ⟨v1, e2, rfl, h⟩ := h
  replace h := asI_inv h; obtain ⟨n6, rfl, h⟩ := h
  replace h := popN_inv h; obtain ⟨rfl, h⟩ := h
  replace h := popN_inv h; obtain ⟨rfl, h⟩ := h
  exact (arith_reckon_j18_eq0 k K n6).trans h
theorem arith_reckon_j13_eq1 {ρ : Type} (k : Nat) (K : Ex → St UU → Option ρ) (a1 : Int) (b2 : Int) : exec UX (arith_reckon_cfg k) (arith_reckon_G k) (arith_reckon_J.getD 1 .skip) ⟨[(1, .pv (.int .i64 a1)), (2, .pv (.int .i64 b2))], []⟩ (nrmK UX (arith_reckon_cfg k) 13 K) = arith_reckon_j13 k (K (.goto 0) ⟨[], []⟩) (fun n6 => K .nxt ⟨[(6, .pv (.int .i64 n6))], []⟩) a1 b2 := by kernel_rfl
theorem arith_reckon_j13_ok1 {ρ : Type} (k : Nat) : JoinOK UX (arith_reckon_cfg (ρ := ρ) k) (arith_reckon_G k) (arith_reckon_J.getD 1 .skip) 13 (arith_reckon_j13_s k) := by
  intro s K r h
  obtain ⟨env, hp⟩ := s
  unfold arith_reckon_j13_s at h
  replace h := popS_inv h; obtain ⟨v1, e2, rfl, h⟩ := h
  replace h := asI_inv h; obtain ⟨a1, rfl, h⟩ := h
  replace h := popS_inv h; obtain ⟨v3, e4, rfl, h⟩ := h
  replace h := asI_inv h; obtain ⟨b2, rfl, h⟩ := h
  replace h := popN_inv h; obtain ⟨rfl, h⟩ := h
  replace h := popN_inv h; obtain ⟨rfl, h⟩ := h
  exact (arith_reckon_j13_eq1 k K a1 b2).trans h
theorem arith_reckon_cok {ρ : Type} (k : Nat) : COK (arith_reckon_cfg (ρ := ρ) k) (arith_reckon_G k) arith_reckon_code :=
  cok_of (tl := []) (tj := [(18, arith_reckon_j18_s k), (13, arith_reckon_j13_s k)]) (tb := []) rfl rfl rfl (nil_all (by kernel_rfl)) (all_nth 2 (by kernel_rfl) ⟨join_case (by kernel_rfl) rfl (arith_reckon_j13_ok1 k), join_case (by kernel_rfl) rfl (arith_reckon_j18_ok0 k), trivial⟩) (fun p hp => by cases hp)
noncomputable def arith_reckon_enc (r : Int × Int) : AV UU := .pv (.tup [.int .i64 r.1, .int .i64 r.2])
noncomputable def arith_reckon_dec (v : AV UU) (_ : List (List (AV UU))) : Option (Int × Int) :=
asT v fun q1 =>
popA q1 fun p2 q3 =>
asI .i64 (.pv p2) fun r0 =>
popA q3 fun p4 q5 =>
asI .i64 (.pv p4) fun r1 =>
popN q5 <|
some (r0, r1)
theorem arith_reckon_dec_enc (v : AV UU) (b : List (List (AV UU))) (r : Int × Int) (h : arith_reckon_dec v b = some r) : v = arith_reckon_enc r := by
  unfold arith_reckon_dec at h
  replace h := asT_inv h; obtain ⟨q1, rfl, h⟩ := h
  replace h := popA_inv h; obtain ⟨p2, q3, rfl, h⟩ := h
  replace h := asI_inv h; obtain ⟨r0, e, h⟩ := h; cases e
  replace h := popA_inv h; obtain ⟨p4, q5, rfl, h⟩ := h
  replace h := asI_inv h; obtain ⟨r1, e, h⟩ := h; cases e
  replace h := popN_inv h; obtain ⟨rfl, h⟩ := h
  cases h
  rfl
theorem arith_reckon_eq (k : Nat) (op0 : Int) (a1 : Int) (b2 : Int) : bodyK UX (arith_reckon_cfg k) (arith_reckon_G k) Tryd.f101 [.pv (.int .i64 op0), .pv (.int .i64 a1), .pv (.int .i64 b2)] [] arith_reckon_dec = arith_reckon k op0 a1 b2 := by kernel_rfl
theorem arith_reckon_con (k : Nat) (op0 : Int) (a1 : Int) (b2 : Int) (r : Int × Int) (h : arith_reckon k op0 a1 b2 = some r) : Con (X := UX) Tryd.prog 101 [.pv (.int .i64 op0), .pv (.int .i64 a1), .pv (.int .i64 b2)] [] (arith_reckon_enc r) [] :=
  con_of_body xok tok Tryd.func101 arith_reckon_body (arith_reckon_gok k) rfl (arith_reckon_cok k) (of_decide_eq_true (by kernel_rfl)) arith_reckon_dec_enc ((arith_reckon_eq k op0 a1 b2).trans h)
noncomputable def arith_reckon_an {ρ : Type} (k : Nat) : An UX ρ := fun args bx K =>
popA args fun v1 a2 =>
asI .i64 v1 fun op0 =>
popA a2 fun v3 a4 =>
asI .i64 v3 fun a1 =>
popA a4 fun v5 a6 =>
asI .i64 v5 fun b2 =>
popN a6 <|
popN bx <|
(arith_reckon k op0 a1 b2).bind fun r => K (arith_reckon_enc r) []
theorem arith_reckon_ok {ρ : Type} (k : Nat) : AnsOK Tryd.prog 101 (arith_reckon_an (ρ := ρ) k) := by
  intro args bx K r h
  unfold arith_reckon_an at h
  replace h := popA_inv h; obtain ⟨v1, a2, rfl, h⟩ := h
  replace h := asI_inv h; obtain ⟨op0, rfl, h⟩ := h
  replace h := popA_inv h; obtain ⟨v3, a4, rfl, h⟩ := h
  replace h := asI_inv h; obtain ⟨a1, rfl, h⟩ := h
  replace h := popA_inv h; obtain ⟨v5, a6, rfl, h⟩ := h
  replace h := asI_inv h; obtain ⟨b2, rfl, h⟩ := h
  replace h := popN_inv h; obtain ⟨rfl, h⟩ := h
  replace h := popN_inv h; obtain ⟨rfl, h⟩ := h
  replace h := bind_inv h
  obtain ⟨x, hx, h⟩ := h
  exact ⟨there_of Tryd.func101 (by kernel_rfl) arith_reckon_body, _, _, h, arith_reckon_con k op0 a1 b2 x hx⟩

/-! cadastre/arith.Do -/
noncomputable def arith_Do_code : Code := match Tryd.f71.body with | some c => c | none => .skip
theorem arith_Do_body : Tryd.f71.body = some arith_Do_code := by kernel_rfl
noncomputable def arith_Do_G {ρ : Type} (k : Nat) : Ans UX ρ := gk 38 (value_All_an k) (gk 101 (arith_reckon_an k) (gk 96 (value_Int_an k) (gnil)))
theorem arith_Do_gok {ρ : Type} (k : Nat) : GOK Tryd.prog (arith_Do_G (ρ := ρ) k) := gok_cons (value_All_ok k) (gok_cons (arith_reckon_ok k) (gok_cons (value_Int_ok k) (gok_nil)))
noncomputable def arith_Do_j7_s {ρ : Type} (k : Nat) : Run UX ρ := fun s K =>
popS 0 s.env fun v1 e2 =>
asI .i64 v1 fun op0 =>
popS 4 e2 fun v3 e4 =>
asP 4 0 v3 <|
popS 5 e4 fun v5 e6 =>
asP 5 0 v5 <|
popS 6 e6 fun v7 e8 =>
asP 6 0 v7 <|
popN e8 <|
popB 4 s.hp fun c9 e10 =>
popA c9 fun v11 c12 =>
asI .i64 v11 fun z13 =>
popA c12 fun v14 c15 =>
asI .i64 v14 fun z16 =>
popA c15 fun v17 c18 =>
asS v17 fun z19 =>
popN c18 <|
popB 5 e10 fun c20 e21 =>
popA c20 fun v22 c23 =>
asI .i64 v22 fun z24 =>
popA c23 fun v25 c26 =>
asI .i64 v25 fun z27 =>
popA c26 fun v28 c29 =>
asS v28 fun z30 =>
popN c29 <|
popB 6 e21 fun c31 e32 =>
popA c31 fun v33 c34 =>
asI .i64 v33 fun z35 =>
popA c34 fun v36 c37 =>
asI .i64 v36 fun z38 =>
popA c37 fun v39 c40 =>
asS v39 fun z41 =>
popN c40 <|
popN e32 <|
arith_Do_j7 k (fun t7 t6 => K .ret ⟨[(6, .ptr 6 0), (7, .pv (.int .i64 t7))], [(6, [.pv (.int .i64 t6.f0), .pv (.int .i64 t6.f1), .pv (.str t6.f2)])]⟩) (fun op0 a4 b5 t6 => K .nxt ⟨[(0, .pv (.int .i64 op0)), (4, .ptr 4 0), (5, .ptr 5 0), (6, .ptr 6 0)], [(4, [.pv (.int .i64 a4.f0), .pv (.int .i64 a4.f1), .pv (.str a4.f2)]), (5, [.pv (.int .i64 b5.f0), .pv (.int .i64 b5.f1), .pv (.str b5.f2)]), (6, [.pv (.int .i64 t6.f0), .pv (.int .i64 t6.f1), .pv (.str t6.f2)])]⟩) op0 (⟨z13, z16, z19⟩ : S23) (⟨z24, z27, z30⟩ : S23) (⟨z35, z38, z41⟩ : S23)
noncomputable def arith_Do_j5_s {ρ : Type} (k : Nat) : Run UX ρ := fun s K =>
popS 0 s.env fun v1 e2 =>
asI .i64 v1 fun op0 =>
popS 4 e2 fun v3 e4 =>
asP 4 0 v3 <|
popS 5 e4 fun v5 e6 =>
asP 5 0 v5 <|
popS 6 e6 fun v7 e8 =>
asP 6 0 v7 <|
popN e8 <|
popB 4 s.hp fun c9 e10 =>
popA c9 fun v11 c12 =>
asI .i64 v11 fun z13 =>
popA c12 fun v14 c15 =>
asI .i64 v14 fun z16 =>
popA c15 fun v17 c18 =>
asS v17 fun z19 =>
popN c18 <|
popB 5 e10 fun c20 e21 =>
popA c20 fun v22 c23 =>
asI .i64 v22 fun z24 =>
popA c23 fun v25 c26 =>
asI .i64 v25 fun z27 =>
popA c26 fun v28 c29 =>
asS v28 fun z30 =>
popN c29 <|
popB 6 e21 fun c31 e32 =>
popA c31 fun v33 c34 =>
asI .i64 v33 fun z35 =>
popA c34 fun v36 c37 =>
asI .i64 v36 fun z38 =>
popA c37 fun v39 c40 =>
asS v39 fun z41 =>
popN c40 <|
popN e32 <|
arith_Do_j5 k (fun t7 t6 => K .ret ⟨[(6, .ptr 6 0), (7, .pv (.int .i64 t7))], [(6, [.pv (.int .i64 t6.f0), .pv (.int .i64 t6.f1), .pv (.str t6.f2)])]⟩) (fun op0 a4 b5 t6 => K .nxt ⟨[(0, .pv (.int .i64 op0)), (4, .ptr 4 0), (5, .ptr 5 0), (6, .ptr 6 0)], [(4, [.pv (.int .i64 a4.f0), .pv (.int .i64 a4.f1), .pv (.str a4.f2)]), (5, [.pv (.int .i64 b5.f0), .pv (.int .i64 b5.f1), .pv (.str b5.f2)]), (6, [.pv (.int .i64 t6.f0), .pv (.int .i64 t6.f1), .pv (.str t6.f2)])]⟩) op0 (⟨z13, z16, z19⟩ : S23) (⟨z24, z27, z30⟩ : S23) (⟨z35, z38, z41⟩ : S23)
noncomputable def arith_Do_j3_s {ρ : Type} (k : Nat) : Run UX ρ := fun s K =>
popS 0 s.env fun v1 e2 =>
asI .i64 v1 fun op0 =>
popS 4 e2 fun v3 e4 =>
asP 4 0 v3 <|
popS 5 e4 fun v5 e6 =>
asP 5 0 v5 <|
popS 6 e6 fun v7 e8 =>
asP 6 0 v7 <|
popN e8 <|
popB 4 s.hp fun c9 e10 =>
popA c9 fun v11 c12 =>
asI .i64 v11 fun z13 =>
popA c12 fun v14 c15 =>
asI .i64 v14 fun z16 =>
popA c15 fun v17 c18 =>
asS v17 fun z19 =>
popN c18 <|
popB 5 e10 fun c20 e21 =>
popA c20 fun v22 c23 =>
asI .i64 v22 fun z24 =>
popA c23 fun v25 c26 =>
asI .i64 v25 fun z27 =>
popA c26 fun v28 c29 =>
asS v28 fun z30 =>
popN c29 <|
popB 6 e21 fun c31 e32 =>
popA c31 fun v33 c34 =>
asI .i64 v33 fun z35 =>
popA c34 fun v36 c37 =>
asI .i64 v36 fun z38 =>
popA c37 fun v39 c40 =>
asS v39 fun z41 =>
popN c40 <|
popN e32 <|
arith_Do_j3 k (fun t7 t6 => K .ret ⟨[(6, .ptr 6 0), (7, .pv (.int .i64 t7))], [(6, [.pv (.int .i64 t6.f0), .pv (.int .i64 t6.f1), .pv (.str t6.f2)])]⟩) (fun op0 a4 b5 t6 => K .nxt ⟨[(0, .pv (.int .i64 op0)), (4, .ptr 4 0), (5, .ptr 5 0), (6, .ptr 6 0)], [(4, [.pv (.int .i64 a4.f0), .pv (.int .i64 a4.f1), .pv (.str a4.f2)]), (5, [.pv (.int .i64 b5.f0), .pv (.int .i64 b5.f1), .pv (.str b5.f2)]), (6, [.pv (.int .i64 t6.f0), .pv (.int .i64 t6.f1), .pv (.str t6.f2)])]⟩) op0 (⟨z13, z16, z19⟩ : S23) (⟨z24, z27, z30⟩ : S23) (⟨z35, z38, z41⟩ : S23)
noncomputable def arith_Do_j9_s {ρ : Type} (k : Nat) : Run UX ρ := fun s K =>
popS 0 s.env fun v1 e2 =>
asI .i64 v1 fun op0 =>
popS 4 e2 fun v3 e4 =>
asP 4 0 v3 <|
popS 5 e4 fun v5 e6 =>
asP 5 0 v5 <|
popS 6 e6 fun v7 e8 =>
asP 6 0 v7 <|
popN e8 <|
popB 4 s.hp fun c9 e10 =>
popA c9 fun v11 c12 =>
asI .i64 v11 fun z13 =>
popA c12 fun v14 c15 =>
asI .i64 v14 fun z16 =>
popA c15 fun v17 c18 =>
asS v17 fun z19 =>
popN c18 <|
popB 5 e10 fun c20 e21 =>
popA c20 fun v22 c23 =>
asI .i64 v22 fun z24 =>
popA c23 fun v25 c26 =>
asI .i64 v25 fun z27 =>
popA c26 fun v28 c29 =>
asS v28 fun z30 =>
popN c29 <|
popB 6 e21 fun c31 e32 =>
popA c31 fun v33 c34 =>
asI .i64 v33 fun z35 =>
popA c34 fun v36 c37 =>
asI .i64 v36 fun z38 =>
popA c37 fun v39 c40 =>
asS v39 fun z41 =>
popN c40 <|
popN e32 <|
arith_Do_j9 k (fun t7 t6 => K .ret ⟨[(6, .ptr 6 0), (7, .pv (.int .i64 t7))], [(6, [.pv (.int .i64 t6.f0), .pv (.int .i64 t6.f1), .pv (.str t6.f2)])]⟩) op0 (⟨z13, z16, z19⟩ : S23) (⟨z24, z27, z30⟩ : S23) (⟨z35, z38, z41⟩ : S23)
noncomputable def arith_Do_cfg {ρ : Type} (k : Nat) : Cfg UX ρ where
  live i := (assoc [(0, [0, 1, 2]), (1, [0, 4, 5, 6]), (2, [6]), (3, [0, 4, 5, 6]), (4, [6]), (5, [0, 4, 5, 6]), (6, [6]), (7, [0, 4, 5, 6]), (8, [6]), (9, [0, 4, 5, 6]), (10, [6, 8, 9]), (11, [6, 9]), (12, [6, 8])] i).getD []
  boxes i := (assoc [(0, []), (1, [4, 5, 6]), (2, [6]), (3, [4, 5, 6]), (4, [6]), (5, [4, 5, 6]), (6, [6]), (7, [4, 5, 6]), (8, [6]), (9, [4, 5, 6]), (10, [6]), (11, [6]), (12, [6])] i).getD []
  tk i := (assoc [] i).getD []
  n := 73
  labelR l := (assoc [] l).getD 0
  loops := assoc []
  labels := assoc []
  joins := assoc [(7, arith_Do_j7_s k), (5, arith_Do_j5_s k), (3, arith_Do_j3_s k), (9, arith_Do_j9_s k)]
  xl i e := match e with
    | .nxt => assoc [(7, ([0, 4, 5, 6], [4, 5, 6])), (5, ([0, 4, 5, 6], [4, 5, 6])), (3, ([0, 4, 5, 6], [4, 5, 6]))] i
    | .ret => assoc [(7, ([6, 7], [6])), (5, ([6, 7], [6])), (3, ([6, 7], [6])), (9, ([6, 7], [6]))] i
    | .exit j => (assoc [] i).bind fun l => assoc l j
    | .goto j => (assoc [] i).bind fun l => assoc l j
noncomputable def arith_Do_L : List Code := selI [] (loopsOf arith_Do_code)
noncomputable def arith_Do_J : List Code := selI [7, 5, 3, 9] (joinsOf arith_Do_code)
noncomputable def arith_Do_S : List Code := scopesOf arith_Do_code
theorem arith_Do_j9_eq0 {ρ : Type} (k : Nat) (K : Ex → St UU → Option ρ) (op0 : Int) (a4 : S23) (b5 : S23) (t6 : S23) : exec UX (arith_Do_cfg k) (arith_Do_G k) (arith_Do_J.getD 0 .skip) ⟨[(0, .pv (.int .i64 op0)), (4, .ptr 4 0), (5, .ptr 5 0), (6, .ptr 6 0)], [(4, [.pv (.int .i64 a4.f0), .pv (.int .i64 a4.f1), .pv (.str a4.f2)]), (5, [.pv (.int .i64 b5.f0), .pv (.int .i64 b5.f1), .pv (.str b5.f2)]), (6, [.pv (.int .i64 t6.f0), .pv (.int .i64 t6.f1), .pv (.str t6.f2)])]⟩ (nrmK UX (arith_Do_cfg k) 9 K) = arith_Do_j9 k (fun t7 t6 => K .ret ⟨[(6, .ptr 6 0), (7, .pv (.int .i64 t7))], [(6, [.pv (.int .i64 t6.f0), .pv (.int .i64 t6.f1), .pv (.str t6.f2)])]⟩) op0 a4 b5 t6 := by kernel_rfl
theorem arith_Do_j9_ok0 {ρ : Type} (k : Nat) : JoinOK UX (arith_Do_cfg (ρ := ρ) k) (arith_Do_G k) (arith_Do_J.getD 0 .skip) 9 (arith_Do_j9_s k) := by
  intro s K r h
  obtain ⟨env, hp⟩ := s
  unfold arith_Do_j9_s at h
  replace h := popS_inv h; obtain ⟨v1, e2, rfl, h⟩ := h
  replace h := asI_inv h; obtain ⟨op0, rfl, h⟩ := h
  replace h := popS_inv h; obtain ⟨v3, e4, rfl, h⟩ := h
  replace h := asP_inv h; obtain ⟨rfl, h⟩ := h
  replace h := popS_inv h; obtain ⟨v5, e6, rfl, h⟩ := h
  replace h := asP_inv h; obtain ⟨rfl, h⟩ := h
  replace h := popS_inv h; obtain ⟨v7, e8, rfl, h⟩ := h
  replace h := asP_inv h; obtain ⟨rfl, h⟩ := h
  replace h := popN_inv h; obtain ⟨rfl, h⟩ := h
  replace h := popB_inv h; obtain ⟨c9, e10, rfl, h⟩ := h
  replace h := popA_inv h; obtain ⟨v11, c12, rfl, h⟩ := h
  replace h := asI_inv h; obtain ⟨z13, rfl, h⟩ := h
  replace h := popA_inv h; obtain ⟨v14, c15, rfl, h⟩ := h
  replace h := asI_inv h; obtain ⟨z16, rfl, h⟩ := h
  replace h := popA_inv h; obtain ⟨v17, c18, rfl, h⟩ := h
  replace h := asS_inv h; obtain ⟨z19, rfl, h⟩ := h
  replace h := popN_inv h; obtain ⟨rfl, h⟩ := h
  replace h := popB_inv h; obtain ⟨c20, e21, rfl, h⟩ := h
  replace h := popA_inv h; obtain ⟨v22, c23, rfl, h⟩ := h
  replace h := asI_inv h; obtain ⟨z24, rfl, h⟩ := h
  replace h := popA_inv h; obtain ⟨v25, c26, rfl, h⟩ := h
  replace h := asI_inv h; obtain ⟨z27, rfl, h⟩ := h
  replace h := popA_inv h; obtain ⟨v28, c29, rfl, h⟩ := h
  replace h := asS_inv h; obtain ⟨z30, rfl, h⟩ := h
  replace h := popN_inv h; obtain ⟨rfl, h⟩ := h
  replace h := popB_inv h; obtain ⟨c31, e32, rfl, h⟩ := h
  replace h := popA_inv h; obtain ⟨v33, c34, rfl, h⟩ := h
  replace h := asI_inv h; obtain ⟨z35, rfl, h⟩ := h
  replace h := popA_inv h; obtain ⟨v36, c37, rfl, h⟩ := h
  replace h := asI_inv h; obtain ⟨z38, rfl, h⟩ := h
  replace h := popA_inv h; obtain ⟨v39, c40, rfl, h⟩ := h
  replace h := asS_inv h; obtain ⟨z41, rfl, h⟩ := h
  replace h := popN_inv h; obtain ⟨rfl, h⟩ := h
  replace h := popN_inv h; obtain ⟨rfl, h⟩ := h
  exact (arith_Do_j9_eq0 k K op0 (⟨z13, z16, z19⟩ : S23) (⟨z24, z27, z30⟩ : S23) (⟨z35, z38, z41⟩ : S23)).trans h
theorem arith_Do_j3_eq1 {ρ : Type} (k : Nat) (K : Ex → St UU → Option ρ) (op0 : Int) (a4 : S23) (b5 : S23) (t6 : S23) : exec UX (arith_Do_cfg k) (arith_Do_G k) (arith_Do_J.getD 1 .skip) ⟨[(0, .pv (.int .i64 op0)), (4, .ptr 4 0), (5, .ptr 5 0), (6, .ptr 6 0)], [(4, [.pv (.int .i64 a4.f0), .pv (.int .i64 a4.f1), .pv (.str a4.f2)]), (5, [.pv (.int .i64 b5.f0), .pv (.int .i64 b5.f1), .pv (.str b5.f2)]), (6, [.pv (.int .i64 t6.f0), .pv (.int .i64 t6.f1), .pv (.str t6.f2)])]⟩ (nrmK UX (arith_Do_cfg k) 3 K) = arith_Do_j3 k (fun t7 t6 => K .ret ⟨[(6, .ptr 6 0), (7, .pv (.int .i64 t7))], [(6, [.pv (.int .i64 t6.f0), .pv (.int .i64 t6.f1), .pv (.str t6.f2)])]⟩) (fun op0 a4 b5 t6 => K .nxt ⟨[(0, .pv (.int .i64 op0)), (4, .ptr 4 0), (5, .ptr 5 0), (6, .ptr 6 0)], [(4, [.pv (.int .i64 a4.f0), .pv (.int .i64 a4.f1), .pv (.str a4.f2)]), (5, [.pv (.int .i64 b5.f0), .pv (.int .i64 b5.f1), .pv (.str b5.f2)]), (6, [.pv (.int .i64 t6.f0), .pv (.int .i64 t6.f1), .pv (.str t6.f2)])]⟩) op0 a4 b5 t6 := by kernel_rfl
theorem arith_Do_j3_ok1 {ρ : Type} (k : Nat) : JoinOK UX (arith_Do_cfg (ρ := ρ) k) (arith_Do_G k) (arith_Do_J.getD 1 .skip) 3 (arith_Do_j3_s k) := by
  intro s K r h
  obtain ⟨env, hp⟩ := s
  unfold arith_Do_j3_s at h
  replace h := popS_inv h; obtain ⟨v1, e2, rfl, h⟩ := h
  replace h := asI_inv h; obtain ⟨op0, rfl, h⟩ := h
  replace h := popS_inv h; obtain ⟨v3, e4, rfl, h⟩ := h
  replace h := asP_inv h; obtain ⟨rfl, h⟩ := h
  replace h := popS_inv h; obtain ⟨v5, e6, rfl, h⟩ := h
  replace h := asP_inv h; obtain ⟨rfl, h⟩ := h
  replace h := popS_inv h; obtain ⟨v7, e8, rfl, h⟩ := h
  replace h := asP_inv h; obtain ⟨rfl, h⟩ := h
  replace h := popN_inv h; obtain ⟨rfl, h⟩ := h
  replace h := popB_inv h; obtain ⟨c9, e10, rfl, h⟩ := h
  replace h := popA_inv h; obtain ⟨v11, c12, rfl, h⟩ := h
  replace h := asI_inv h; obtain ⟨z13, rfl, h⟩ := h
  replace h := popA_inv h; obtain ⟨v14, c15, rfl, h⟩ := h
  replace h := asI_inv h; obtain ⟨z16, rfl, h⟩ := h
  replace h := popA_inv h; obtain ⟨v17, c18, rfl, h⟩ := h
  replace h := asS_inv h; obtain ⟨z19, rfl, h⟩ := h
  replace h := popN_inv h; obtain ⟨rfl, h⟩ := h
  replace h := popB_inv h; obtain ⟨c20, e21, rfl, h⟩ := h
  replace h := popA_inv h; obtain ⟨v22, c23, rfl, h⟩ := h
  replace h := asI_inv h; obtain ⟨z24, rfl, h⟩ := h
  replace h := popA_inv h; obtain ⟨v25, c26, rfl, h⟩ := h
  replace h := asI_inv h; obtain ⟨z27, rfl, h⟩ := h
  replace h := popA_inv h; obtain ⟨v28, c29, rfl, h⟩ := h
  replace h := asS_inv h; obtain ⟨z30, rfl, h⟩ := h
  replace h := popN_inv h; obtain ⟨rfl, h⟩ := h
  replace h := popB_inv h; obtain ⟨c31, e32, rfl, h⟩ := h
  replace h := popA_inv h; obtain ⟨v33, c34, rfl, h⟩ := h
  replace h := asI_inv h; obtain ⟨z35, rfl, h⟩ := h
  replace h := popA_inv h; obtain ⟨v36, c37, rfl, h⟩ := h
  replace h := asI_inv h; obtain ⟨z38, rfl, h⟩ := h
  replace h := popA_inv h; obtain ⟨v39, c40, rfl, h⟩ := h
  replace h := asS_inv h; obtain ⟨z41, rfl, h⟩ := h
  replace h := popN_inv h; obtain ⟨rfl, h⟩ := h
  replace h := popN_inv h; obtain ⟨rfl, h⟩ := h
  exact (arith_Do_j3_eq1 k K op0 (⟨z13, z16, z19⟩ : S23) (⟨z24, z27, z30⟩ : S23) (⟨z35, z38, z41⟩ : S23)).trans h
theorem arith_Do_j5_eq2 {ρ : Type} (k : Nat) (K : Ex → St UU → Option ρ) (op0 : Int) (a4 : S23) (b5 : S23) (t6 : S23) : exec UX (arith_Do_cfg k) (arith_Do_G k) (arith_Do_J.getD 2 .skip) ⟨[(0, .pv (.int .i64 op0)), (4, .ptr 4 0), (5, .ptr 5 0), (6, .ptr 6 0)], [(4, [.pv (.int .i64 a4.f0), .pv (.int .i64 a4.f1), .pv (.str a4.f2)]), (5, [.pv (.int .i64 b5.f0), .pv (.int .i64 b5.f1), .pv (.str b5.f2)]), (6, [.pv (.int .i64 t6.f0), .pv (.int .i64 t6.f1), .pv (.str t6.f2)])]⟩ (nrmK UX (arith_Do_cfg k) 5 K) = arith_Do_j5 k (fun t7 t6 => K .ret ⟨[(6, .ptr 6 0), (7, .pv (.int .i64 t7))], [(6, [.pv (.int .i64 t6.f0), .pv (.int .i64 t6.f1), .pv (.str t6.f2)])]⟩) (fun op0 a4 b5 t6 => K .nxt ⟨[(0, .pv (.int .i64 op0)), (4, .ptr 4 0), (5, .ptr 5 0), (6, .ptr 6 0)], [(4, [.pv (.int .i64 a4.f0), .pv (.int .i64 a4.f1), .pv (.str a4.f2)]), (5, [.pv (.int .i64 b5.f0), .pv (.int .i64 b5.f1), .pv (.str b5.f2)]), (6, [.pv (.int .i64 t6.f0), .pv (.int .i64 t6.f1), .pv (.str t6.f2)])]⟩) op0 a4 b5 t6 := by kernel_rfl
theorem arith_Do_j5_ok2 {ρ : Type} (k : Nat) : JoinOK UX (arith_Do_cfg (ρ := ρ) k) (arith_Do_G k) (arith_Do_J.getD 2 .skip) 5 (arith_Do_j5_s k) := by
  intro s K r h
  obtain ⟨env, hp⟩ := s
  unfold arith_Do_j5_s at h
  replace h := popS_inv h; obtain ⟨v1, e2, rfl, h⟩ := h
  replace h := asI_inv h; obtain ⟨op0, rfl, h⟩ := h
  replace h := popS_inv h; obtain ⟨v3, e4, rfl, h⟩ := h
  replace h := asP_inv h; obtain ⟨rfl, h⟩ := h
  replace h := popS_inv h; obtain ⟨v5, e6, rfl, h⟩ := h
  replace h := asP_inv h; obtain ⟨rfl, h⟩ := h
  replace h := popS_inv h; obtain ⟨v7, e8, rfl, h⟩ := h
  replace h := asP_inv h; obtain ⟨rfl, h⟩ := h
  replace h := popN_inv h; obtain ⟨rfl, h⟩ := h
  replace h := popB_inv h; obtain ⟨c9, e10, rfl, h⟩ := h
  replace h := popA_inv h; obtain ⟨v11, c12, rfl, h⟩ := h
  replace h := asI_inv h; obtain ⟨z13, rfl, h⟩ := h
  replace h := popA_inv h; obtain ⟨v14, c15, rfl, h⟩ := h
  replace h := asI_inv h; obtain ⟨z16, rfl, h⟩ := h
  replace h := popA_inv h; obtain ⟨v17, c18, rfl, h⟩ := h
  replace h := asS_inv h; obtain ⟨z19, rfl, h⟩ := h
  replace h := popN_inv h; obtain ⟨rfl, h⟩ := h
  replace h := popB_inv h; obtain ⟨c20, e21, rfl, h⟩ := h
  replace h := popA_inv h; obtain ⟨v22, c23, rfl, h⟩ := h
  replace h := asI_inv h; obtain ⟨z24, rfl, h⟩ := h
  replace h := popA_inv h; obtain ⟨v25, c26, rfl, h⟩ := h
  replace h := asI_inv h; obtain ⟨z27, rfl, h⟩ := h
  replace h := popA_inv h; obtain ⟨v28, c29, rfl, h⟩ := h
  replace h := asS_inv h; obtain ⟨z30, rfl, h⟩ := h
  replace h := popN_inv h; obtain ⟨rfl, h⟩ := h
  replace h := popB_inv h; obtain ⟨c31, e32, rfl, h⟩ := h
  replace h := popA_inv h; obtain ⟨v33, c34, rfl, h⟩ := h
  replace h := asI_inv h; obtain ⟨z35, rfl, h⟩ := h
  replace h := popA_inv h; obtain ⟨v36, c37, rfl, h⟩ := h
  replace h := asI_inv h; obtain ⟨z38, rfl, h⟩ := h
  replace h := popA_inv h; obtain ⟨v39, c40, rfl, h⟩ := h
  replace h := asS_inv h; obtain ⟨z41, rfl, h⟩ := h
  replace h := popN_inv h; obtain ⟨rfl, h⟩ := h
  replace h := popN_inv h; obtain ⟨rfl, h⟩ := h
  exact (arith_Do_j5_eq2 k K op0 (⟨z13, z16, z19⟩ : S23) (⟨z24, z27, z30⟩ : S23) (⟨z35, z38, z41⟩ : S23)).trans h
theorem arith_Do_j7_eq3 {ρ : Type} (k : Nat) (K : Ex → St UU → Option ρ) (op0 : Int) (a4 : S23) (b5 : S23) (t6 : S23) : exec UX (arith_Do_cfg k) (arith_Do_G k) (arith_Do_J.getD 3 .skip) ⟨[(0, .pv (.int .i64 op0)), (4, .ptr 4 0), (5, .ptr 5 0), (6, .ptr 6 0)], [(4, [.pv (.int .i64 a4.f0), .pv (.int .i64 a4.f1), .pv (.str a4.f2)]), (5, [.pv (.int .i64 b5.f0), .pv (.int .i64 b5.f1), .pv (.str b5.f2)]), (6, [.pv (.int .i64 t6.f0), .pv (.int .i64 t6.f1), .pv (.str t6.f2)])]⟩ (nrmK UX (arith_Do_cfg k) 7 K) = arith_Do_j7 k (fun t7 t6 => K .ret ⟨[(6, .ptr 6 0), (7, .pv (.int .i64 t7))], [(6, [.pv (.int .i64 t6.f0), .pv (.int .i64 t6.f1), .pv (.str t6.f2)])]⟩) (fun op0 a4 b5 t6 => K .nxt ⟨[(0, .pv (.int .i64 op0)), (4, .ptr 4 0), (5, .ptr 5 0), (6, .ptr 6 0)], [(4, [.pv (.int .i64 a4.f0), .pv (.int .i64 a4.f1), .pv (.str a4.f2)]), (5, [.pv (.int .i64 b5.f0), .pv (.int .i64 b5.f1), .pv (.str b5.f2)]), (6, [.pv (.int .i64 t6.f0), .pv (.int .i64 t6.f1), .pv (.str t6.f2)])]⟩) op0 a4 b5 t6 := by kernel_rfl
theorem arith_Do_j7_ok3 {ρ : Type} (k : Nat) : JoinOK UX (arith_Do_cfg (ρ := ρ) k) (arith_Do_G k) (arith_Do_J.getD 3 .skip) 7 (arith_Do_j7_s k) := by
  intro s K r h
  obtain ⟨env, hp⟩ := s
  unfold arith_Do_j7_s at h
  replace h := popS_inv h; obtain ⟨v1, e2, rfl, h⟩ := h
  replace h := asI_inv h; obtain ⟨op0, rfl, h⟩ := h
  replace h := popS_inv h; obtain ⟨v3, e4, rfl, h⟩ := h
  replace h := asP_inv h; obtain ⟨rfl, h⟩ := h
  replace h := popS_inv h; obtain ⟨v5, e6, rfl, h⟩ := h
  replace h := asP_inv h; obtain ⟨rfl, h⟩ := h
  replace h := popS_inv h; obtain ⟨v7, e8, rfl, h⟩ := h
  replace h := asP_inv h; obtain ⟨rfl, h⟩ := h
  replace h := popN_inv h; obtain ⟨rfl, h⟩ := h
  replace h := popB_inv h; obtain ⟨c9, e10, rfl, h⟩ := h
  replace h := popA_inv h; obtain ⟨v11, c12, rfl, h⟩ := h
  replace h := asI_inv h; obtain ⟨z13, rfl, h⟩ := h
  replace h := popA_inv h; obtain ⟨v14, c15, rfl, h⟩ := h
  replace h := asI_inv h; obtain ⟨z16, rfl, h⟩ := h
  replace h := popA_inv h; obtain ⟨v17, c18, rfl, h⟩ := h
  replace h := asS_inv h; obtain ⟨z19, rfl, h⟩ := h
  replace h := popN_inv h; obtain ⟨rfl, h⟩ := h
  replace h := popB_inv h; obtain ⟨c20, e21, rfl, h⟩ := h
  replace h := popA_inv h; obtain ⟨v22, c23, rfl, h⟩ := h
  replace h := asI_inv h; obtain ⟨z24, rfl, h⟩ := h
  replace h := popA_inv h; obtain ⟨v25, c26, rfl, h⟩ := h
  replace h := asI_inv h; obtain ⟨z27, rfl, h⟩ := h
  replace h := popA_inv h; obtain ⟨v28, c29, rfl, h⟩ := h
  replace h := asS_inv h; obtain ⟨z30, rfl, h⟩ := h
  replace h := popN_inv h; obtain ⟨rfl, h⟩ := h
  replace h := popB_inv h; obtain ⟨c31, e32, rfl, h⟩ := h
  replace h := popA_inv h; obtain ⟨v33, c34, rfl, h⟩ := h
  replace h := asI_inv h; obtain ⟨z35, rfl, h⟩ := h
  replace h := popA_inv h; obtain ⟨v36, c37, rfl, h⟩ := h
  replace h := asI_inv h; obtain ⟨z38, rfl, h⟩ := h
  replace h := popA_inv h; obtain ⟨v39, c40, rfl, h⟩ := h
  replace h := asS_inv h; obtain ⟨z41, rfl, h⟩ := h
  replace h := popN_inv h; obtain ⟨rfl, h⟩ := h
  replace h := popN_inv h; obtain ⟨rfl, h⟩ := h
  exact (arith_Do_j7_eq3 k K op0 (⟨z13, z16, z19⟩ : S23) (⟨z24, z27, z30⟩ : S23) (⟨z35, z38, z41⟩ : S23)).trans h
theorem arith_Do_cok {ρ : Type} (k : Nat) : COK (arith_Do_cfg (ρ := ρ) k) (arith_Do_G k) arith_Do_code :=
  cok_of (tl := []) (tj := [(7, arith_Do_j7_s k), (5, arith_Do_j5_s k), (3, arith_Do_j3_s k), (9, arith_Do_j9_s k)]) (tb := []) rfl rfl rfl (nil_all (by kernel_rfl)) (all_nth 4 (by kernel_rfl) ⟨join_case (by kernel_rfl) rfl (arith_Do_j7_ok3 k), join_case (by kernel_rfl) rfl (arith_Do_j5_ok2 k), join_case (by kernel_rfl) rfl (arith_Do_j3_ok1 k), join_case (by kernel_rfl) rfl (arith_Do_j9_ok0 k), trivial⟩) (fun p hp => by cases hp)
noncomputable def arith_Do_enc (r : S23 × Int) : AV UU := .pv (.tup [.typ (.s23 r.1), .int .i64 r.2])
noncomputable def arith_Do_dec (v : AV UU) (_ : List (List (AV UU))) : Option (S23 × Int) :=
asT v fun q1 =>
popA q1 fun p2 q3 =>
as_s23 (.pv p2) fun r0 =>
popA q3 fun p4 q5 =>
asI .i64 (.pv p4) fun r1 =>
popN q5 <|
some (r0, r1)
theorem arith_Do_dec_enc (v : AV UU) (b : List (List (AV UU))) (r : S23 × Int) (h : arith_Do_dec v b = some r) : v = arith_Do_enc r := by
  unfold arith_Do_dec at h
  replace h := asT_inv h; obtain ⟨q1, rfl, h⟩ := h
  replace h := popA_inv h; obtain ⟨p2, q3, rfl, h⟩ := h
  replace h := as_s23_inv h; obtain ⟨r0, e, h⟩ := h; cases e
  replace h := popA_inv h; obtain ⟨p4, q5, rfl, h⟩ := h
  replace h := asI_inv h; obtain ⟨r1, e, h⟩ := h; cases e
  replace h := popN_inv h; obtain ⟨rfl, h⟩ := h
  cases h
  rfl
theorem arith_Do_eq (k : Nat) (op0 : Int) (a1 : S23) (b2 : S23) : bodyK UX (arith_Do_cfg k) (arith_Do_G k) Tryd.f71 [.pv (.int .i64 op0), .pv (.typ (.s23 a1)), .pv (.typ (.s23 b2))] [] arith_Do_dec = arith_Do k op0 a1 b2 := by kernel_rfl
theorem arith_Do_con (k : Nat) (op0 : Int) (a1 : S23) (b2 : S23) (r : S23 × Int) (h : arith_Do k op0 a1 b2 = some r) : Con (X := UX) Tryd.prog 71 [.pv (.int .i64 op0), .pv (.typ (.s23 a1)), .pv (.typ (.s23 b2))] [] (arith_Do_enc r) [] :=
  con_of_body xok tok Tryd.func71 arith_Do_body (arith_Do_gok k) rfl (arith_Do_cok k) (of_decide_eq_true (by kernel_rfl)) arith_Do_dec_enc ((arith_Do_eq k op0 a1 b2).trans h)
noncomputable def arith_Do_an {ρ : Type} (k : Nat) : An UX ρ := fun args bx K =>
popA args fun v1 a2 =>
asI .i64 v1 fun op0 =>
popA a2 fun v3 a4 =>
as_s23 v3 fun a1 =>
popA a4 fun v5 a6 =>
as_s23 v5 fun b2 =>
popN a6 <|
popN bx <|
(arith_Do k op0 a1 b2).bind fun r => K (arith_Do_enc r) []
theorem arith_Do_ok {ρ : Type} (k : Nat) : AnsOK Tryd.prog 71 (arith_Do_an (ρ := ρ) k) := by
  intro args bx K r h
  unfold arith_Do_an at h
  replace h := popA_inv h; obtain ⟨v1, a2, rfl, h⟩ := h
  replace h := asI_inv h; obtain ⟨op0, rfl, h⟩ := h
  replace h := popA_inv h; obtain ⟨v3, a4, rfl, h⟩ := h
  replace h := as_s23_inv h; obtain ⟨a1, rfl, h⟩ := h
  replace h := popA_inv h; obtain ⟨v5, a6, rfl, h⟩ := h
  replace h := as_s23_inv h; obtain ⟨b2, rfl, h⟩ := h
  replace h := popN_inv h; obtain ⟨rfl, h⟩ := h
  replace h := popN_inv h; obtain ⟨rfl, h⟩ := h
  replace h := bind_inv h
  obtain ⟨x, hx, h⟩ := h
  exact ⟨there_of Tryd.func71 (by kernel_rfl) arith_Do_body, _, _, h, arith_Do_con k op0 a1 b2 x hx⟩

/-! cadastre/value.sign -/
noncomputable def value_sign_code : Code := match Tryd.f111.body with | some c => c | none => .skip
theorem value_sign_body : Tryd.f111.body = some value_sign_code := by kernel_rfl
noncomputable def value_sign_G {ρ : Type} (k : Nat) : Ans UX ρ := gnil
theorem value_sign_gok {ρ : Type} (k : Nat) : GOK Tryd.prog (value_sign_G (ρ := ρ) k) := gok_nil
noncomputable def value_sign_cfg {ρ : Type} (k : Nat) : Cfg UX ρ where
  live i := (assoc [(0, [0, 1]), (1, [0, 1]), (2, []), (3, [0, 1]), (4, []), (5, [])] i).getD []
  boxes i := (assoc [(0, []), (1, []), (2, []), (3, []), (4, []), (5, [])] i).getD []
  tk i := (assoc [] i).getD []
  n := 13
  labelR l := (assoc [] l).getD 0
  loops := assoc []
  labels := assoc []
  joins := assoc []
  xl i e := match e with
    | .nxt => assoc [] i
    | .ret => assoc [] i
    | .exit j => (assoc [] i).bind fun l => assoc l j
    | .goto j => (assoc [] i).bind fun l => assoc l j
noncomputable def value_sign_L : List Code := selI [] (loopsOf value_sign_code)
noncomputable def value_sign_J : List Code := selI [] (joinsOf value_sign_code)
noncomputable def value_sign_S : List Code := scopesOf value_sign_code
theorem value_sign_cok {ρ : Type} (k : Nat) : COK (value_sign_cfg (ρ := ρ) k) (value_sign_G k) value_sign_code :=
  cok_of (tl := []) (tj := []) (tb := []) rfl rfl rfl (nil_all (by kernel_rfl)) (nil_all (by kernel_rfl)) (fun p hp => by cases hp)
noncomputable def value_sign_enc (r : Int) : AV UU := .pv (.int .i64 r)
noncomputable def value_sign_dec (v : AV UU) (_ : List (List (AV UU))) : Option Int :=
asI .i64 v fun r0 =>
some r0
theorem value_sign_dec_enc (v : AV UU) (b : List (List (AV UU))) (r : Int) (h : value_sign_dec v b = some r) : v = value_sign_enc r := by
  unfold value_sign_dec at h
  replace h := asI_inv h; obtain ⟨r0, rfl, h⟩ := h
  cases h
  rfl
theorem value_sign_eq (k : Nat) (a0 : Int) (b1 : Int) : bodyK UX (value_sign_cfg k) (value_sign_G k) Tryd.f111 [.pv (.int .i64 a0), .pv (.int .i64 b1)] [] value_sign_dec = value_sign k a0 b1 := by kernel_rfl
theorem value_sign_con (k : Nat) (a0 : Int) (b1 : Int) (r : Int) (h : value_sign k a0 b1 = some r) : Con (X := UX) Tryd.prog 111 [.pv (.int .i64 a0), .pv (.int .i64 b1)] [] (value_sign_enc r) [] :=
  con_of_body xok tok Tryd.func111 value_sign_body (value_sign_gok k) rfl (value_sign_cok k) (of_decide_eq_true (by kernel_rfl)) value_sign_dec_enc ((value_sign_eq k a0 b1).trans h)
noncomputable def value_sign_an {ρ : Type} (k : Nat) : An UX ρ := fun args bx K =>
popA args fun v1 a2 =>
asI .i64 v1 fun a0 =>
popA a2 fun v3 a4 =>
asI .i64 v3 fun b1 =>
popN a4 <|
popN bx <|
(value_sign k a0 b1).bind fun r => K (value_sign_enc r) []
theorem value_sign_ok {ρ : Type} (k : Nat) : AnsOK Tryd.prog 111 (value_sign_an (ρ := ρ) k) := by
  intro args bx K r h
  unfold value_sign_an at h
  replace h := popA_inv h; obtain ⟨v1, a2, rfl, h⟩ := h
  replace h := asI_inv h; obtain ⟨a0, rfl, h⟩ := h
  replace h := popA_inv h; obtain ⟨v3, a4, rfl, h⟩ := h
  replace h := asI_inv h; obtain ⟨b1, rfl, h⟩ := h
  replace h := popN_inv h; obtain ⟨rfl, h⟩ := h
  replace h := popN_inv h; obtain ⟨rfl, h⟩ := h
  replace h := bind_inv h
  obtain ⟨x, hx, h⟩ := h
  exact ⟨there_of Tryd.func111 (by kernel_rfl) value_sign_body, _, _, h, value_sign_con k a0 b1 x hx⟩

/-! cadastre/value.text -/
noncomputable def value_text_code : Code := match Tryd.f112.body with | some c => c | none => .skip
theorem value_text_body : Tryd.f112.body = some value_text_code := by kernel_rfl
noncomputable def value_text_G {ρ : Type} (k : Nat) : Ans UX ρ := gk 111 (value_sign_an k) (gnil)
theorem value_text_gok {ρ : Type} (k : Nat) : GOK Tryd.prog (value_text_G (ρ := ρ) k) := gok_cons (value_sign_ok k) (gok_nil)
noncomputable def value_text_j3_s {ρ : Type} (k : Nat) : Run UX ρ := fun s K =>
popS 0 s.env fun v1 e2 =>
asS v1 fun a0 =>
popS 1 e2 fun v3 e4 =>
asS v3 fun b1 =>
popS 5 e4 fun v5 e6 =>
asI .i64 v5 fun i5 =>
popN e6 <|
popN s.hp <|
value_text_j3 k (fun a0 b1 i5 => K (.goto 0) ⟨[(0, .pv (.str a0)), (1, .pv (.str b1)), (5, .pv (.int .i64 i5))], []⟩) (fun a0 b1 i5 => K .nxt ⟨[(0, .pv (.str a0)), (1, .pv (.str b1)), (5, .pv (.int .i64 i5))], []⟩) a0 b1 i5
noncomputable def value_text_l2_s {ρ : Type} (k : Nat) : Run UX ρ := fun s K =>
popS 0 s.env fun v1 e2 =>
asS v1 fun a0 =>
popS 1 e2 fun v3 e4 =>
asS v3 fun b1 =>
popS 5 e4 fun v5 e6 =>
asI .i64 v5 fun i5 =>
popN e6 <|
popN s.hp <|
value_text_l2 k (fun a0 b1 i5 => K (.goto 0) ⟨[(0, .pv (.str a0)), (1, .pv (.str b1)), (5, .pv (.int .i64 i5))], []⟩) (fun a0 b1 => K (.exit 0) ⟨[(0, .pv (.str a0)), (1, .pv (.str b1))], []⟩) k a0 b1 i5
noncomputable def value_text_cfg {ρ : Type} (k : Nat) : Cfg UX ρ where
  live i := (assoc [(0, [0, 1]), (1, [0, 1]), (2, [0, 1, 5]), (3, [0, 1, 5]), (4, [0, 1, 5]), (5, [0, 1]), (6, [0, 1, 5])] i).getD []
  boxes i := (assoc [(0, []), (1, []), (2, []), (3, []), (4, []), (5, []), (6, [])] i).getD []
  tk i := (assoc [] i).getD []
  n := 39
  labelR l := (assoc [] l).getD 0
  loops := assoc [(2, value_text_l2_s k)]
  labels := assoc []
  joins := assoc [(3, value_text_j3_s k)]
  xl i e := match e with
    | .nxt => assoc [(3, ([0, 1, 5], []))] i
    | .ret => assoc [] i
    | .exit j => (assoc [(2, [(0, ([0, 1], []))])] i).bind fun l => assoc l j
    | .goto j => (assoc [(3, [(0, ([0, 1, 5], []))]), (2, [(0, ([0, 1, 5], []))])] i).bind fun l => assoc l j
noncomputable def value_text_L : List Code := selI [2] (loopsOf value_text_code)
noncomputable def value_text_J : List Code := selI [3] (joinsOf value_text_code)
noncomputable def value_text_S : List Code := scopesOf value_text_code
theorem value_text_l2_eq0 {ρ : Type} (k : Nat) (K : Ex → St UU → Option ρ) : ∀ (n : Nat) (v : ByteArray × ByteArray × Int), iterK UX (fun s => s.at (value_text_cfg (ρ := ρ) k).live (value_text_cfg (ρ := ρ) k).boxes (some 2)) (exec UX (value_text_cfg k) (value_text_G k) (value_text_L.getD 0 .skip)) n ⟨[(0, .pv (.str v.1)), (1, .pv (.str v.2.1)), (5, .pv (.int .i64 v.2.2))], []⟩ (nrmK UX (value_text_cfg k) 2 K) = value_text_l2 k (fun a0 b1 i5 => K (.goto 0) ⟨[(0, .pv (.str a0)), (1, .pv (.str b1)), (5, .pv (.int .i64 i5))], []⟩) (fun a0 b1 => K (.exit 0) ⟨[(0, .pv (.str a0)), (1, .pv (.str b1))], []⟩) n v.1 v.2.1 v.2.2 :=
  iter_rec (X := UX) (fun v => ⟨[(0, .pv (.str v.1)), (1, .pv (.str v.2.1)), (5, .pv (.int .i64 v.2.2))], []⟩) (fun rec v => value_text_l2_b k (fun a0 b1 i5 => K (.goto 0) ⟨[(0, .pv (.str a0)), (1, .pv (.str b1)), (5, .pv (.int .i64 i5))], []⟩) (fun a0 b1 => K (.exit 0) ⟨[(0, .pv (.str a0)), (1, .pv (.str b1))], []⟩) (fun a0 b1 i5 => rec (a0, b1, i5)) v.1 v.2.1 v.2.2) (fun n v => value_text_l2 k (fun a0 b1 i5 => K (.goto 0) ⟨[(0, .pv (.str a0)), (1, .pv (.str b1)), (5, .pv (.int .i64 i5))], []⟩) (fun a0 b1 => K (.exit 0) ⟨[(0, .pv (.str a0)), (1, .pv (.str b1))], []⟩) n v.1 v.2.1 v.2.2) (fun n v => by kernel_rfl) (fun _ => rfl) (fun _ _ => rfl)
theorem value_text_l2_ok0 {ρ : Type} (k : Nat) : IterOK UX (value_text_cfg (ρ := ρ) k) (value_text_G k) (value_text_L.getD 0 .skip) 2 (value_text_l2_s k) := by
  intro s K r h
  obtain ⟨env, hp⟩ := s
  unfold value_text_l2_s at h
  replace h := popS_inv h; obtain ⟨v1, e2, rfl, h⟩ := h
  replace h := asS_inv h; obtain ⟨a0, rfl, h⟩ := h
  replace h := popS_inv h; obtain ⟨v3, e4, rfl, h⟩ := h
  replace h := asS_inv h; obtain ⟨b1, rfl, h⟩ := h
  replace h := popS_inv h; obtain ⟨v5, e6, rfl, h⟩ := h
  replace h := asI_inv h; obtain ⟨i5, rfl, h⟩ := h
  replace h := popN_inv h; obtain ⟨rfl, h⟩ := h
  replace h := popN_inv h; obtain ⟨rfl, h⟩ := h
  exact ⟨k, (value_text_l2_eq0 k K k (a0, b1, i5)).trans h⟩
theorem value_text_j3_eq0 {ρ : Type} (k : Nat) (K : Ex → St UU → Option ρ) (a0 : ByteArray) (b1 : ByteArray) (i5 : Int) : exec UX (value_text_cfg k) (value_text_G k) (value_text_J.getD 0 .skip) ⟨[(0, .pv (.str a0)), (1, .pv (.str b1)), (5, .pv (.int .i64 i5))], []⟩ (nrmK UX (value_text_cfg k) 3 K) = value_text_j3 k (fun a0 b1 i5 => K (.goto 0) ⟨[(0, .pv (.str a0)), (1, .pv (.str b1)), (5, .pv (.int .i64 i5))], []⟩) (fun a0 b1 i5 => K .nxt ⟨[(0, .pv (.str a0)), (1, .pv (.str b1)), (5, .pv (.int .i64 i5))], []⟩) a0 b1 i5 := by kernel_rfl
theorem value_text_j3_ok0 {ρ : Type} (k : Nat) : JoinOK UX (value_text_cfg (ρ := ρ) k) (value_text_G k) (value_text_J.getD 0 .skip) 3 (value_text_j3_s k) := by
  intro s K r h
  obtain ⟨env, hp⟩ := s
  unfold value_text_j3_s at h
  replace h := popS_inv h; obtain ⟨v1, e2, rfl, h⟩ := h
  replace h := asS_inv h; obtain ⟨a0, rfl, h⟩ := h
  replace h := popS_inv h; obtain ⟨v3, e4, rfl, h⟩ := h
  replace h := asS_inv h; obtain ⟨b1, rfl, h⟩ := h
  replace h := popS_inv h; obtain ⟨v5, e6, rfl, h⟩ := h
  replace h := asI_inv h; obtain ⟨i5, rfl, h⟩ := h
  replace h := popN_inv h; obtain ⟨rfl, h⟩ := h
  replace h := popN_inv h; obtain ⟨rfl, h⟩ := h
  exact (value_text_j3_eq0 k K a0 b1 i5).trans h
theorem value_text_cok {ρ : Type} (k : Nat) : COK (value_text_cfg (ρ := ρ) k) (value_text_G k) value_text_code :=
  cok_of (tl := [(2, value_text_l2_s k)]) (tj := [(3, value_text_j3_s k)]) (tb := []) rfl rfl rfl (all_nth 1 (by kernel_rfl) ⟨iter_case (by kernel_rfl) rfl (value_text_l2_ok0 k), trivial⟩) (all_nth 1 (by kernel_rfl) ⟨join_case (by kernel_rfl) rfl (value_text_j3_ok0 k), trivial⟩) (fun p hp => by cases hp)
noncomputable def value_text_enc (r : Int) : AV UU := .pv (.int .i64 r)
noncomputable def value_text_dec (v : AV UU) (_ : List (List (AV UU))) : Option Int :=
asI .i64 v fun r0 =>
some r0
theorem value_text_dec_enc (v : AV UU) (b : List (List (AV UU))) (r : Int) (h : value_text_dec v b = some r) : v = value_text_enc r := by
  unfold value_text_dec at h
  replace h := asI_inv h; obtain ⟨r0, rfl, h⟩ := h
  cases h
  rfl
theorem value_text_eq (k : Nat) (a0 : ByteArray) (b1 : ByteArray) : bodyK UX (value_text_cfg k) (value_text_G k) Tryd.f112 [.pv (.str a0), .pv (.str b1)] [] value_text_dec = value_text k a0 b1 := by kernel_rfl
theorem value_text_con (k : Nat) (a0 : ByteArray) (b1 : ByteArray) (r : Int) (h : value_text k a0 b1 = some r) : Con (X := UX) Tryd.prog 112 [.pv (.str a0), .pv (.str b1)] [] (value_text_enc r) [] :=
  con_of_body xok tok Tryd.func112 value_text_body (value_text_gok k) rfl (value_text_cok k) (of_decide_eq_true (by kernel_rfl)) value_text_dec_enc ((value_text_eq k a0 b1).trans h)
noncomputable def value_text_an {ρ : Type} (k : Nat) : An UX ρ := fun args bx K =>
popA args fun v1 a2 =>
asS v1 fun a0 =>
popA a2 fun v3 a4 =>
asS v3 fun b1 =>
popN a4 <|
popN bx <|
(value_text k a0 b1).bind fun r => K (value_text_enc r) []
theorem value_text_ok {ρ : Type} (k : Nat) : AnsOK Tryd.prog 112 (value_text_an (ρ := ρ) k) := by
  intro args bx K r h
  unfold value_text_an at h
  replace h := popA_inv h; obtain ⟨v1, a2, rfl, h⟩ := h
  replace h := asS_inv h; obtain ⟨a0, rfl, h⟩ := h
  replace h := popA_inv h; obtain ⟨v3, a4, rfl, h⟩ := h
  replace h := asS_inv h; obtain ⟨b1, rfl, h⟩ := h
  replace h := popN_inv h; obtain ⟨rfl, h⟩ := h
  replace h := popN_inv h; obtain ⟨rfl, h⟩ := h
  replace h := bind_inv h
  obtain ⟨x, hx, h⟩ := h
  exact ⟨there_of Tryd.func112 (by kernel_rfl) value_text_body, _, _, h, value_text_con k a0 b1 x hx⟩

/-! cadastre/value.Order -/
noncomputable def value_Order_code : Code := match Tryd.f102.body with | some c => c | none => .skip
theorem value_Order_body : Tryd.f102.body = some value_Order_code := by kernel_rfl
noncomputable def value_Order_G {ρ : Type} (k : Nat) : Ans UX ρ := gk 111 (value_sign_an k) (gk 112 (value_text_an k) (gnil))
theorem value_Order_gok {ρ : Type} (k : Nat) : GOK Tryd.prog (value_Order_G (ρ := ρ) k) := gok_cons (value_sign_ok k) (gok_cons (value_text_ok k) (gok_nil))
noncomputable def value_Order_cfg {ρ : Type} (k : Nat) : Cfg UX ρ where
  live i := (assoc [(0, [0, 1]), (1, [2, 3]), (2, [2, 3]), (3, [2, 3]), (4, [2, 3]), (5, [2, 3])] i).getD []
  boxes i := (assoc [(0, []), (1, [2, 3]), (2, [2, 3]), (3, [2, 3]), (4, [2, 3]), (5, [2, 3])] i).getD []
  tk i := (assoc [] i).getD []
  n := 30
  labelR l := (assoc [] l).getD 0
  loops := assoc []
  labels := assoc []
  joins := assoc []
  xl i e := match e with
    | .nxt => assoc [] i
    | .ret => assoc [] i
    | .exit j => (assoc [] i).bind fun l => assoc l j
    | .goto j => (assoc [] i).bind fun l => assoc l j
noncomputable def value_Order_L : List Code := selI [] (loopsOf value_Order_code)
noncomputable def value_Order_J : List Code := selI [] (joinsOf value_Order_code)
noncomputable def value_Order_S : List Code := scopesOf value_Order_code
theorem value_Order_cok {ρ : Type} (k : Nat) : COK (value_Order_cfg (ρ := ρ) k) (value_Order_G k) value_Order_code :=
  cok_of (tl := []) (tj := []) (tb := []) rfl rfl rfl (nil_all (by kernel_rfl)) (nil_all (by kernel_rfl)) (fun p hp => by cases hp)
noncomputable def value_Order_enc (r : Int) : AV UU := .pv (.int .i64 r)
noncomputable def value_Order_dec (v : AV UU) (_ : List (List (AV UU))) : Option Int :=
asI .i64 v fun r0 =>
some r0
theorem value_Order_dec_enc (v : AV UU) (b : List (List (AV UU))) (r : Int) (h : value_Order_dec v b = some r) : v = value_Order_enc r := by
  unfold value_Order_dec at h
  replace h := asI_inv h; obtain ⟨r0, rfl, h⟩ := h
  cases h
  rfl
theorem value_Order_eq (k : Nat) (a0 : S23) (b1 : S23) : bodyK UX (value_Order_cfg k) (value_Order_G k) Tryd.f102 [.pv (.typ (.s23 a0)), .pv (.typ (.s23 b1))] [] value_Order_dec = value_Order k a0 b1 := by kernel_rfl
theorem value_Order_con (k : Nat) (a0 : S23) (b1 : S23) (r : Int) (h : value_Order k a0 b1 = some r) : Con (X := UX) Tryd.prog 102 [.pv (.typ (.s23 a0)), .pv (.typ (.s23 b1))] [] (value_Order_enc r) [] :=
  con_of_body xok tok Tryd.func102 value_Order_body (value_Order_gok k) rfl (value_Order_cok k) (of_decide_eq_true (by kernel_rfl)) value_Order_dec_enc ((value_Order_eq k a0 b1).trans h)
noncomputable def value_Order_an {ρ : Type} (k : Nat) : An UX ρ := fun args bx K =>
popA args fun v1 a2 =>
as_s23 v1 fun a0 =>
popA a2 fun v3 a4 =>
as_s23 v3 fun b1 =>
popN a4 <|
popN bx <|
(value_Order k a0 b1).bind fun r => K (value_Order_enc r) []
theorem value_Order_ok {ρ : Type} (k : Nat) : AnsOK Tryd.prog 102 (value_Order_an (ρ := ρ) k) := by
  intro args bx K r h
  unfold value_Order_an at h
  replace h := popA_inv h; obtain ⟨v1, a2, rfl, h⟩ := h
  replace h := as_s23_inv h; obtain ⟨a0, rfl, h⟩ := h
  replace h := popA_inv h; obtain ⟨v3, a4, rfl, h⟩ := h
  replace h := as_s23_inv h; obtain ⟨b1, rfl, h⟩ := h
  replace h := popN_inv h; obtain ⟨rfl, h⟩ := h
  replace h := popN_inv h; obtain ⟨rfl, h⟩ := h
  replace h := bind_inv h
  obtain ⟨x, hx, h⟩ := h
  exact ⟨there_of Tryd.func102 (by kernel_rfl) value_Order_body, _, _, h, value_Order_con k a0 b1 x hx⟩
end Go.Proofs.YtnoeedkbadoogaaDoor.E
