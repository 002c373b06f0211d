/-
  What the program's functions answer: the printed functions' answers.
-/
import Derived.Test.YtdfmfpbdggefpaaDoorDG3
namespace Go.Proofs.YtdfmfpbdggefpaaDoor.D
open Go Go.AX
/-! cadastre/arith.Concat -/
noncomputable def arith_Concat_code : Code := match Tryd.f18.body with | some c => c | none => .skip
theorem arith_Concat_body : Tryd.f18.body = some arith_Concat_code := by kernel_rfl
noncomputable def arith_Concat_G {ρ : Type} (k : Nat) : Ans UX ρ := gk 37 (value_All_an k) (gk 17 (arith_Text_an k) (gk 35 (value_Text_an k) (gnil)))
theorem arith_Concat_gok {ρ : Type} (k : Nat) : GOK Tryd.prog (arith_Concat_G (ρ := ρ) k) := gok_cons (value_All_ok k) (gok_cons (arith_Text_ok k) (gok_cons (value_Text_ok k) (gok_nil)))
noncomputable def arith_Concat_j5_s {ρ : Type} (k : Nat) : Run UX ρ := fun s K =>
popS 2 s.env fun v1 e2 =>
asP 2 0 v1 <|
popS 3 e2 fun v3 e4 =>
asP 3 0 v3 <|
popS 4 e4 fun v5 e6 =>
asP 4 0 v5 <|
popN e6 <|
popB 2 s.hp fun c7 e8 =>
popA c7 fun v9 c10 =>
asI .i64 v9 fun z11 =>
popA c10 fun v12 c13 =>
asI .i64 v12 fun z14 =>
popA c13 fun v15 c16 =>
asS v15 fun z17 =>
popN c16 <|
popB 3 e8 fun c18 e19 =>
popA c18 fun v20 c21 =>
asI .i64 v20 fun z22 =>
popA c21 fun v23 c24 =>
asI .i64 v23 fun z25 =>
popA c24 fun v26 c27 =>
asS v26 fun z28 =>
popN c27 <|
popB 4 e19 fun c29 e30 =>
popA c29 fun v31 c32 =>
asI .i64 v31 fun z33 =>
popA c32 fun v34 c35 =>
asI .i64 v34 fun z36 =>
popA c35 fun v37 c38 =>
asS v37 fun z39 =>
popN c38 <|
popN e30 <|
arith_Concat_j5 k (fun t5 t4 => K .ret ⟨[(4, .ptr 4 0), (5, .pv (.int .i64 t5))], [(4, [.pv (.int .i64 t4.f0), .pv (.int .i64 t4.f1), .pv (.str t4.f2)])]⟩) (fun a2 b3 t4 => K .nxt ⟨[(2, .ptr 2 0), (3, .ptr 3 0), (4, .ptr 4 0)], [(2, [.pv (.int .i64 a2.f0), .pv (.int .i64 a2.f1), .pv (.str a2.f2)]), (3, [.pv (.int .i64 b3.f0), .pv (.int .i64 b3.f1), .pv (.str b3.f2)]), (4, [.pv (.int .i64 t4.f0), .pv (.int .i64 t4.f1), .pv (.str t4.f2)])]⟩) (⟨z11, z14, z17⟩ : S23) (⟨z22, z25, z28⟩ : S23) (⟨z33, z36, z39⟩ : S23)
noncomputable def arith_Concat_j7_s {ρ : Type} (k : Nat) : Run UX ρ := fun s K =>
popS 2 s.env fun v1 e2 =>
asP 2 0 v1 <|
popS 3 e2 fun v3 e4 =>
asP 3 0 v3 <|
popS 4 e4 fun v5 e6 =>
asP 4 0 v5 <|
popN e6 <|
popB 2 s.hp fun c7 e8 =>
popA c7 fun v9 c10 =>
asI .i64 v9 fun z11 =>
popA c10 fun v12 c13 =>
asI .i64 v12 fun z14 =>
popA c13 fun v15 c16 =>
asS v15 fun z17 =>
popN c16 <|
popB 3 e8 fun c18 e19 =>
popA c18 fun v20 c21 =>
asI .i64 v20 fun z22 =>
popA c21 fun v23 c24 =>
asI .i64 v23 fun z25 =>
popA c24 fun v26 c27 =>
asS v26 fun z28 =>
popN c27 <|
popB 4 e19 fun c29 e30 =>
popA c29 fun v31 c32 =>
asI .i64 v31 fun z33 =>
popA c32 fun v34 c35 =>
asI .i64 v34 fun z36 =>
popA c35 fun v37 c38 =>
asS v37 fun z39 =>
popN c38 <|
popN e30 <|
arith_Concat_j7 k (fun t5 t4 => K .ret ⟨[(4, .ptr 4 0), (5, .pv (.int .i64 t5))], [(4, [.pv (.int .i64 t4.f0), .pv (.int .i64 t4.f1), .pv (.str t4.f2)])]⟩) (⟨z11, z14, z17⟩ : S23) (⟨z22, z25, z28⟩ : S23) (⟨z33, z36, z39⟩ : S23)
noncomputable def arith_Concat_cfg {ρ : Type} (k : Nat) : Cfg UX ρ where
  live i := (assoc [(0, [0, 1]), (1, [2, 3, 4]), (2, [4]), (3, [2, 3, 4]), (4, [4]), (5, [2, 3, 4]), (6, [4]), (7, [2, 3, 4]), (8, [3, 4, 6]), (9, [4, 6, 8]), (10, [4]), (11, [4, 6, 8])] i).getD []
  boxes i := (assoc [(0, []), (1, [2, 3, 4]), (2, [4]), (3, [2, 3, 4]), (4, [4]), (5, [2, 3, 4]), (6, [4]), (7, [2, 3, 4]), (8, [3, 4, 6]), (9, [4, 6, 8]), (10, [4]), (11, [4, 6, 8])] i).getD []
  tk i := (assoc [] i).getD []
  n := 62
  labelR l := (assoc [] l).getD 0
  loops := assoc []
  labels := assoc []
  joins := assoc [(5, arith_Concat_j5_s k), (7, arith_Concat_j7_s k)]
  xl i e := match e with
    | .nxt => assoc [(5, ([2, 3, 4], [2, 3, 4]))] i
    | .ret => assoc [(5, ([4, 5], [4])), (7, ([4, 5], [4]))] i
    | .exit j => (assoc [] i).bind fun l => assoc l j
    | .goto j => (assoc [] i).bind fun l => assoc l j
noncomputable def arith_Concat_L : List Code := selI [] (loopsOf arith_Concat_code)
noncomputable def arith_Concat_J : List Code := selI [5, 7] (joinsOf arith_Concat_code)
noncomputable def arith_Concat_S : List Code := scopesOf arith_Concat_code
theorem arith_Concat_j7_eq0 {ρ : Type} (k : Nat) (K : Ex → St UU → Option ρ) (a2 : S23) (b3 : S23) (t4 : S23) : exec UX (arith_Concat_cfg k) (arith_Concat_G k) (arith_Concat_J.getD 0 .skip) ⟨[(2, .ptr 2 0), (3, .ptr 3 0), (4, .ptr 4 0)], [(2, [.pv (.int .i64 a2.f0), .pv (.int .i64 a2.f1), .pv (.str a2.f2)]), (3, [.pv (.int .i64 b3.f0), .pv (.int .i64 b3.f1), .pv (.str b3.f2)]), (4, [.pv (.int .i64 t4.f0), .pv (.int .i64 t4.f1), .pv (.str t4.f2)])]⟩ (nrmK UX (arith_Concat_cfg k) 7 K) = arith_Concat_j7 k (fun t5 t4 => K .ret ⟨[(4, .ptr 4 0), (5, .pv (.int .i64 t5))], [(4, [.pv (.int .i64 t4.f0), .pv (.int .i64 t4.f1), .pv (.str t4.f2)])]⟩) a2 b3 t4 := by kernel_rfl
theorem arith_Concat_j7_ok0 {ρ : Type} (k : Nat) : JoinOK UX (arith_Concat_cfg (ρ := ρ) k) (arith_Concat_G k) (arith_Concat_J.getD 0 .skip) 7 (arith_Concat_j7_s k) := by
  intro s K r h
  obtain ⟨env, hp⟩ := s
  unfold arith_Concat_j7_s at h
  replace h := popS_inv h; obtain ⟨v1, e2, rfl, h⟩ := h
  replace h := asP_inv h; obtain ⟨rfl, h⟩ := h
  replace h := popS_inv h; obtain ⟨v3, e4, rfl, h⟩ := h
  replace h := asP_inv h; obtain ⟨rfl, h⟩ := h
  replace h := popS_inv h; obtain ⟨v5, e6, rfl, h⟩ := h
  replace h := asP_inv h; obtain ⟨rfl, h⟩ := h
  replace h := popN_inv h; obtain ⟨rfl, h⟩ := h
  replace h := popB_inv h; obtain ⟨c7, e8, rfl, h⟩ := h
  replace h := popA_inv h; obtain ⟨v9, c10, rfl, h⟩ := h
  replace h := asI_inv h; obtain ⟨z11, rfl, h⟩ := h
  replace h := popA_inv h; obtain ⟨v12, c13, rfl, h⟩ := h
  replace h := asI_inv h; obtain ⟨z14, rfl, h⟩ := h
  replace h := popA_inv h; obtain ⟨v15, c16, rfl, h⟩ := h
  replace h := asS_inv h; obtain ⟨z17, rfl, h⟩ := h
  replace h := popN_inv h; obtain ⟨rfl, h⟩ := h
  replace h := popB_inv h; obtain ⟨c18, e19, rfl, h⟩ := h
  replace h := popA_inv h; obtain ⟨v20, c21, rfl, h⟩ := h
  replace h := asI_inv h; obtain ⟨z22, rfl, h⟩ := h
  replace h := popA_inv h; obtain ⟨v23, c24, rfl, h⟩ := h
  replace h := asI_inv h; obtain ⟨z25, rfl, h⟩ := h
  replace h := popA_inv h; obtain ⟨v26, c27, rfl, h⟩ := h
  replace h := asS_inv h; obtain ⟨z28, rfl, h⟩ := h
  replace h := popN_inv h; obtain ⟨rfl, h⟩ := h
  replace h := popB_inv h; obtain ⟨c29, e30, rfl, h⟩ := h
  replace h := popA_inv h; obtain ⟨v31, c32, rfl, h⟩ := h
  replace h := asI_inv h; obtain ⟨z33, rfl, h⟩ := h
  replace h := popA_inv h; obtain ⟨v34, c35, rfl, h⟩ := h
  replace h := asI_inv h; obtain ⟨z36, rfl, h⟩ := h
  replace h := popA_inv h; obtain ⟨v37, c38, rfl, h⟩ := h
  replace h := asS_inv h; obtain ⟨z39, rfl, h⟩ := h
  replace h := popN_inv h; obtain ⟨rfl, h⟩ := h
  replace h := popN_inv h; obtain ⟨rfl, h⟩ := h
  exact (arith_Concat_j7_eq0 k K (⟨z11, z14, z17⟩ : S23) (⟨z22, z25, z28⟩ : S23) (⟨z33, z36, z39⟩ : S23)).trans h
theorem arith_Concat_j5_eq1 {ρ : Type} (k : Nat) (K : Ex → St UU → Option ρ) (a2 : S23) (b3 : S23) (t4 : S23) : exec UX (arith_Concat_cfg k) (arith_Concat_G k) (arith_Concat_J.getD 1 .skip) ⟨[(2, .ptr 2 0), (3, .ptr 3 0), (4, .ptr 4 0)], [(2, [.pv (.int .i64 a2.f0), .pv (.int .i64 a2.f1), .pv (.str a2.f2)]), (3, [.pv (.int .i64 b3.f0), .pv (.int .i64 b3.f1), .pv (.str b3.f2)]), (4, [.pv (.int .i64 t4.f0), .pv (.int .i64 t4.f1), .pv (.str t4.f2)])]⟩ (nrmK UX (arith_Concat_cfg k) 5 K) = arith_Concat_j5 k (fun t5 t4 => K .ret ⟨[(4, .ptr 4 0), (5, .pv (.int .i64 t5))], [(4, [.pv (.int .i64 t4.f0), .pv (.int .i64 t4.f1), .pv (.str t4.f2)])]⟩) (fun a2 b3 t4 => K .nxt ⟨[(2, .ptr 2 0), (3, .ptr 3 0), (4, .ptr 4 0)], [(2, [.pv (.int .i64 a2.f0), .pv (.int .i64 a2.f1), .pv (.str a2.f2)]), (3, [.pv (.int .i64 b3.f0), .pv (.int .i64 b3.f1), .pv (.str b3.f2)]), (4, [.pv (.int .i64 t4.f0), .pv (.int .i64 t4.f1), .pv (.str t4.f2)])]⟩) a2 b3 t4 := by kernel_rfl
theorem arith_Concat_j5_ok1 {ρ : Type} (k : Nat) : JoinOK UX (arith_Concat_cfg (ρ := ρ) k) (arith_Concat_G k) (arith_Concat_J.getD 1 .skip) 5 (arith_Concat_j5_s k) := by
  intro s K r h
  obtain ⟨env, hp⟩ := s
  unfold arith_Concat_j5_s at h
  replace h := popS_inv h; obtain ⟨v1, e2, rfl, h⟩ := h
  replace h := asP_inv h; obtain ⟨rfl, h⟩ := h
  replace h := popS_inv h; obtain ⟨v3, e4, rfl, h⟩ := h
  replace h := asP_inv h; obtain ⟨rfl, h⟩ := h
  replace h := popS_inv h; obtain ⟨v5, e6, rfl, h⟩ := h
  replace h := asP_inv h; obtain ⟨rfl, h⟩ := h
  replace h := popN_inv h; obtain ⟨rfl, h⟩ := h
  replace h := popB_inv h; obtain ⟨c7, e8, rfl, h⟩ := h
  replace h := popA_inv h; obtain ⟨v9, c10, rfl, h⟩ := h
  replace h := asI_inv h; obtain ⟨z11, rfl, h⟩ := h
  replace h := popA_inv h; obtain ⟨v12, c13, rfl, h⟩ := h
  replace h := asI_inv h; obtain ⟨z14, rfl, h⟩ := h
  replace h := popA_inv h; obtain ⟨v15, c16, rfl, h⟩ := h
  replace h := asS_inv h; obtain ⟨z17, rfl, h⟩ := h
  replace h := popN_inv h; obtain ⟨rfl, h⟩ := h
  replace h := popB_inv h; obtain ⟨c18, e19, rfl, h⟩ := h
  replace h := popA_inv h; obtain ⟨v20, c21, rfl, h⟩ := h
  replace h := asI_inv h; obtain ⟨z22, rfl, h⟩ := h
  replace h := popA_inv h; obtain ⟨v23, c24, rfl, h⟩ := h
  replace h := asI_inv h; obtain ⟨z25, rfl, h⟩ := h
  replace h := popA_inv h; obtain ⟨v26, c27, rfl, h⟩ := h
  replace h := asS_inv h; obtain ⟨z28, rfl, h⟩ := h
  replace h := popN_inv h; obtain ⟨rfl, h⟩ := h
  replace h := popB_inv h; obtain ⟨c29, e30, rfl, h⟩ := h
  replace h := popA_inv h; obtain ⟨v31, c32, rfl, h⟩ := h
  replace h := asI_inv h; obtain ⟨z33, rfl, h⟩ := h
  replace h := popA_inv h; obtain ⟨v34, c35, rfl, h⟩ := h
  replace h := asI_inv h; obtain ⟨z36, rfl, h⟩ := h
  replace h := popA_inv h; obtain ⟨v37, c38, rfl, h⟩ := h
  replace h := asS_inv h; obtain ⟨z39, rfl, h⟩ := h
  replace h := popN_inv h; obtain ⟨rfl, h⟩ := h
  replace h := popN_inv h; obtain ⟨rfl, h⟩ := h
  exact (arith_Concat_j5_eq1 k K (⟨z11, z14, z17⟩ : S23) (⟨z22, z25, z28⟩ : S23) (⟨z33, z36, z39⟩ : S23)).trans h
theorem arith_Concat_cok {ρ : Type} (k : Nat) : COK (arith_Concat_cfg (ρ := ρ) k) (arith_Concat_G k) arith_Concat_code :=
  cok_of (tl := []) (tj := [(5, arith_Concat_j5_s k), (7, arith_Concat_j7_s k)]) (tb := []) rfl rfl rfl (nil_all (by kernel_rfl)) (all_nth 2 (by kernel_rfl) ⟨join_case (by kernel_rfl) rfl (arith_Concat_j5_ok1 k), join_case (by kernel_rfl) rfl (arith_Concat_j7_ok0 k), trivial⟩) (fun p hp => by cases hp)
noncomputable def arith_Concat_enc (r : S23 × Int) : AV UU := .pv (.tup [.typ (.s23 r.1), .int .i64 r.2])
noncomputable def arith_Concat_dec (v : AV UU) (_ : List (List (AV UU))) : Option (S23 × Int) :=
asT v fun q1 =>
popA q1 fun p2 q3 =>
as_s23 (.pv p2) fun r0 =>
popA q3 fun p4 q5 =>
asI .i64 (.pv p4) fun r1 =>
popN q5 <|
some (r0, r1)
theorem arith_Concat_dec_enc (v : AV UU) (b : List (List (AV UU))) (r : S23 × Int) (h : arith_Concat_dec v b = some r) : v = arith_Concat_enc r := by
  unfold arith_Concat_dec at h
  replace h := asT_inv h; obtain ⟨q1, rfl, h⟩ := h
  replace h := popA_inv h; obtain ⟨p2, q3, rfl, h⟩ := h
  replace h := as_s23_inv h; obtain ⟨r0, e, h⟩ := h; cases e
  replace h := popA_inv h; obtain ⟨p4, q5, rfl, h⟩ := h
  replace h := asI_inv h; obtain ⟨r1, e, h⟩ := h; cases e
  replace h := popN_inv h; obtain ⟨rfl, h⟩ := h
  cases h
  rfl
theorem arith_Concat_eq (k : Nat) (a0 : S23) (b1 : S23) : bodyK UX (arith_Concat_cfg k) (arith_Concat_G k) Tryd.f18 [.pv (.typ (.s23 a0)), .pv (.typ (.s23 b1))] [] arith_Concat_dec = arith_Concat k a0 b1 := by kernel_rfl
theorem arith_Concat_con (k : Nat) (a0 : S23) (b1 : S23) (r : S23 × Int) (h : arith_Concat k a0 b1 = some r) : Con (X := UX) Tryd.prog 18 [.pv (.typ (.s23 a0)), .pv (.typ (.s23 b1))] [] (arith_Concat_enc r) [] :=
  con_of_body xok tok Tryd.func18 arith_Concat_body (arith_Concat_gok k) rfl (arith_Concat_cok k) (of_decide_eq_true (by kernel_rfl)) arith_Concat_dec_enc ((arith_Concat_eq k a0 b1).trans h)
noncomputable def arith_Concat_an {ρ : Type} (k : Nat) : An UX ρ := fun args bx K =>
popA args fun v1 a2 =>
as_s23 v1 fun a0 =>
popA a2 fun v3 a4 =>
as_s23 v3 fun b1 =>
popN a4 <|
popN bx <|
(arith_Concat k a0 b1).bind fun r => K (arith_Concat_enc r) []
theorem arith_Concat_ok {ρ : Type} (k : Nat) : AnsOK Tryd.prog 18 (arith_Concat_an (ρ := ρ) k) := by
  intro args bx K r h
  unfold arith_Concat_an at h
  replace h := popA_inv h; obtain ⟨v1, a2, rfl, h⟩ := h
  replace h := as_s23_inv h; obtain ⟨a0, rfl, h⟩ := h
  replace h := popA_inv h; obtain ⟨v3, a4, rfl, h⟩ := h
  replace h := as_s23_inv h; obtain ⟨b1, rfl, h⟩ := h
  replace h := popN_inv h; obtain ⟨rfl, h⟩ := h
  replace h := popN_inv h; obtain ⟨rfl, h⟩ := h
  replace h := bind_inv h
  obtain ⟨x, hx, h⟩ := h
  exact ⟨there_of Tryd.func18 (by kernel_rfl) arith_Concat_body, _, _, h, arith_Concat_con k a0 b1 x hx⟩

/-! cadastre/cadastrelaw4.num -/
noncomputable def cadastrelaw4_num_code : Code := match Tryd.f19.body with | some c => c | none => .skip
theorem cadastrelaw4_num_body : Tryd.f19.body = some cadastrelaw4_num_code := by kernel_rfl
noncomputable def cadastrelaw4_num_G {ρ : Type} (k : Nat) : Ans UX ρ := gnil
theorem cadastrelaw4_num_gok {ρ : Type} (k : Nat) : GOK Tryd.prog (cadastrelaw4_num_G (ρ := ρ) k) := gok_nil
noncomputable def cadastrelaw4_num_cfg {ρ : Type} (k : Nat) : Cfg UX ρ where
  live i := (assoc [(0, [0]), (1, [0])] i).getD []
  boxes i := (assoc [(0, []), (1, [])] i).getD []
  tk i := (assoc [] i).getD []
  n := 4
  labelR l := (assoc [] l).getD 0
  loops := assoc []
  labels := assoc []
  joins := assoc []
  xl i e := match e with
    | .nxt => assoc [] i
    | .ret => assoc [] i
    | .exit j => (assoc [] i).bind fun l => assoc l j
    | .goto j => (assoc [] i).bind fun l => assoc l j
noncomputable def cadastrelaw4_num_L : List Code := selI [] (loopsOf cadastrelaw4_num_code)
noncomputable def cadastrelaw4_num_J : List Code := selI [] (joinsOf cadastrelaw4_num_code)
noncomputable def cadastrelaw4_num_S : List Code := scopesOf cadastrelaw4_num_code
theorem cadastrelaw4_num_cok {ρ : Type} (k : Nat) : COK (cadastrelaw4_num_cfg (ρ := ρ) k) (cadastrelaw4_num_G k) cadastrelaw4_num_code :=
  cok_of (tl := []) (tj := []) (tb := []) rfl rfl rfl (nil_all (by kernel_rfl)) (nil_all (by kernel_rfl)) (fun p hp => by cases hp)
noncomputable def cadastrelaw4_num_enc (r : Int) : AV UU := .pv (.int .i64 r)
noncomputable def cadastrelaw4_num_dec (v : AV UU) (_ : List (List (AV UU))) : Option Int :=
asI .i64 v fun r0 =>
some r0
theorem cadastrelaw4_num_dec_enc (v : AV UU) (b : List (List (AV UU))) (r : Int) (h : cadastrelaw4_num_dec v b = some r) : v = cadastrelaw4_num_enc r := by
  unfold cadastrelaw4_num_dec at h
  replace h := asI_inv h; obtain ⟨r0, rfl, h⟩ := h
  cases h
  rfl
theorem cadastrelaw4_num_eq (k : Nat) (e0 : Int) : bodyK UX (cadastrelaw4_num_cfg k) (cadastrelaw4_num_G k) Tryd.f19 [.pv (.int .i64 e0)] [] cadastrelaw4_num_dec = cadastrelaw4_num k e0 := by kernel_rfl
theorem cadastrelaw4_num_con (k : Nat) (e0 : Int) (r : Int) (h : cadastrelaw4_num k e0 = some r) : Con (X := UX) Tryd.prog 19 [.pv (.int .i64 e0)] [] (cadastrelaw4_num_enc r) [] :=
  con_of_body xok tok Tryd.func19 cadastrelaw4_num_body (cadastrelaw4_num_gok k) rfl (cadastrelaw4_num_cok k) (of_decide_eq_true (by kernel_rfl)) cadastrelaw4_num_dec_enc ((cadastrelaw4_num_eq k e0).trans h)
noncomputable def cadastrelaw4_num_an {ρ : Type} (k : Nat) : An UX ρ := fun args bx K =>
popA args fun v1 a2 =>
asI .i64 v1 fun e0 =>
popN a2 <|
popN bx <|
(cadastrelaw4_num k e0).bind fun r => K (cadastrelaw4_num_enc r) []
theorem cadastrelaw4_num_ok {ρ : Type} (k : Nat) : AnsOK Tryd.prog 19 (cadastrelaw4_num_an (ρ := ρ) k) := by
  intro args bx K r h
  unfold cadastrelaw4_num_an at h
  replace h := popA_inv h; obtain ⟨v1, a2, rfl, h⟩ := h
  replace h := asI_inv h; obtain ⟨e0, rfl, h⟩ := h
  replace h := popN_inv h; obtain ⟨rfl, h⟩ := h
  replace h := popN_inv h; obtain ⟨rfl, h⟩ := h
  replace h := bind_inv h
  obtain ⟨x, hx, h⟩ := h
  exact ⟨there_of Tryd.func19 (by kernel_rfl) cadastrelaw4_num_body, _, _, h, cadastrelaw4_num_con k e0 x hx⟩

/-! cadastre/arith.Length -/
noncomputable def arith_Length_code : Code := match Tryd.f20.body with | some c => c | none => .skip
theorem arith_Length_body : Tryd.f20.body = some arith_Length_code := by kernel_rfl
noncomputable def arith_Length_G {ρ : Type} (k : Nat) : Ans UX ρ := gk 17 (arith_Text_an k) (gk 38 (value_Int_an k) (gnil))
theorem arith_Length_gok {ρ : Type} (k : Nat) : GOK Tryd.prog (arith_Length_G (ρ := ρ) k) := gok_cons (arith_Text_ok k) (gok_cons (value_Int_ok k) (gok_nil))
noncomputable def arith_Length_cfg {ρ : Type} (k : Nat) : Cfg UX ρ where
  live i := (assoc [(0, [0]), (1, [1, 2]), (2, [2, 4, 5]), (3, [2, 5]), (4, [2, 4])] i).getD []
  boxes i := (assoc [(0, []), (1, [1, 2]), (2, [2, 4]), (3, [2]), (4, [2, 4])] i).getD []
  tk i := (assoc [] i).getD []
  n := 24
  labelR l := (assoc [] l).getD 0
  loops := assoc []
  labels := assoc []
  joins := assoc []
  xl i e := match e with
    | .nxt => assoc [] i
    | .ret => assoc [] i
    | .exit j => (assoc [] i).bind fun l => assoc l j
    | .goto j => (assoc [] i).bind fun l => assoc l j
noncomputable def arith_Length_L : List Code := selI [] (loopsOf arith_Length_code)
noncomputable def arith_Length_J : List Code := selI [] (joinsOf arith_Length_code)
noncomputable def arith_Length_S : List Code := scopesOf arith_Length_code
theorem arith_Length_cok {ρ : Type} (k : Nat) : COK (arith_Length_cfg (ρ := ρ) k) (arith_Length_G k) arith_Length_code :=
  cok_of (tl := []) (tj := []) (tb := []) rfl rfl rfl (nil_all (by kernel_rfl)) (nil_all (by kernel_rfl)) (fun p hp => by cases hp)
noncomputable def arith_Length_enc (r : S23 × Int) : AV UU := .pv (.tup [.typ (.s23 r.1), .int .i64 r.2])
noncomputable def arith_Length_dec (v : AV UU) (_ : List (List (AV UU))) : Option (S23 × Int) :=
asT v fun q1 =>
popA q1 fun p2 q3 =>
as_s23 (.pv p2) fun r0 =>
popA q3 fun p4 q5 =>
asI .i64 (.pv p4) fun r1 =>
popN q5 <|
some (r0, r1)
theorem arith_Length_dec_enc (v : AV UU) (b : List (List (AV UU))) (r : S23 × Int) (h : arith_Length_dec v b = some r) : v = arith_Length_enc r := by
  unfold arith_Length_dec at h
  replace h := asT_inv h; obtain ⟨q1, rfl, h⟩ := h
  replace h := popA_inv h; obtain ⟨p2, q3, rfl, h⟩ := h
  replace h := as_s23_inv h; obtain ⟨r0, e, h⟩ := h; cases e
  replace h := popA_inv h; obtain ⟨p4, q5, rfl, h⟩ := h
  replace h := asI_inv h; obtain ⟨r1, e, h⟩ := h; cases e
  replace h := popN_inv h; obtain ⟨rfl, h⟩ := h
  cases h
  rfl
theorem arith_Length_eq (k : Nat) (v0 : S23) : bodyK UX (arith_Length_cfg k) (arith_Length_G k) Tryd.f20 [.pv (.typ (.s23 v0))] [] arith_Length_dec = arith_Length k v0 := by kernel_rfl
theorem arith_Length_con (k : Nat) (v0 : S23) (r : S23 × Int) (h : arith_Length k v0 = some r) : Con (X := UX) Tryd.prog 20 [.pv (.typ (.s23 v0))] [] (arith_Length_enc r) [] :=
  con_of_body xok tok Tryd.func20 arith_Length_body (arith_Length_gok k) rfl (arith_Length_cok k) (of_decide_eq_true (by kernel_rfl)) arith_Length_dec_enc ((arith_Length_eq k v0).trans h)
noncomputable def arith_Length_an {ρ : Type} (k : Nat) : An UX ρ := fun args bx K =>
popA args fun v1 a2 =>
as_s23 v1 fun v0 =>
popN a2 <|
popN bx <|
(arith_Length k v0).bind fun r => K (arith_Length_enc r) []
theorem arith_Length_ok {ρ : Type} (k : Nat) : AnsOK Tryd.prog 20 (arith_Length_an (ρ := ρ) k) := by
  intro args bx K r h
  unfold arith_Length_an at h
  replace h := popA_inv h; obtain ⟨v1, a2, rfl, h⟩ := h
  replace h := as_s23_inv h; obtain ⟨v0, rfl, h⟩ := h
  replace h := popN_inv h; obtain ⟨rfl, h⟩ := h
  replace h := popN_inv h; obtain ⟨rfl, h⟩ := h
  replace h := bind_inv h
  obtain ⟨x, hx, h⟩ := h
  exact ⟨there_of Tryd.func20 (by kernel_rfl) arith_Length_body, _, _, h, arith_Length_con k v0 x hx⟩

/-! cadastre/arith.reckon -/
noncomputable def arith_reckon_code : Code := match Tryd.f44.body with | some c => c | none => .skip
theorem arith_reckon_body : Tryd.f44.body = some arith_reckon_code := by kernel_rfl
noncomputable def arith_reckon_G {ρ : Type} (k : Nat) : Ans UX ρ := gnil
theorem arith_reckon_gok {ρ : Type} (k : Nat) : GOK Tryd.prog (arith_reckon_G (ρ := ρ) k) := gok_nil
noncomputable def arith_reckon_j18_s {ρ : Type} (k : Nat) : Run UX ρ := fun s K =>
popS 6 s.env fun v1 e2 =>
asI .i64 v1 fun n6 =>
popN e2 <|
popN s.hp <|
arith_reckon_j18 k (fun n6 e7 => K .ret ⟨[(6, .pv (.int .i64 n6)), (7, .pv (.int .i64 e7))], []⟩) n6
noncomputable def arith_reckon_j13_s {ρ : Type} (k : Nat) : Run UX ρ := fun s K =>
popS 1 s.env fun v1 e2 =>
asI .i64 v1 fun a1 =>
popS 2 e2 fun v3 e4 =>
asI .i64 v3 fun b2 =>
popN e4 <|
popN s.hp <|
arith_reckon_j13 k (K (.goto 0) ⟨[], []⟩) (fun n6 => K .nxt ⟨[(6, .pv (.int .i64 n6))], []⟩) a1 b2
noncomputable def arith_reckon_cfg {ρ : Type} (k : Nat) : Cfg UX ρ where
  live i := (assoc [(0, [0, 1, 2]), (1, [0, 1, 2, 6]), (2, [1, 2, 6]), (3, [1, 2]), (4, [1, 2, 6, 8]), (5, [1, 2]), (6, [1, 2]), (7, [1, 2, 6, 8]), (8, [1, 2]), (9, [1, 2]), (10, [1, 2, 6, 8]), (11, [1, 2]), (12, []), (13, [1, 2]), (14, [1, 2, 6]), (15, [1, 2, 6, 8]), (16, [1, 2]), (17, [1, 2]), (18, [6]), (19, [])] i).getD []
  boxes i := (assoc [(0, []), (1, []), (2, []), (3, []), (4, []), (5, []), (6, []), (7, []), (8, []), (9, []), (10, []), (11, []), (12, []), (13, []), (14, []), (15, []), (16, []), (17, []), (18, []), (19, [])] i).getD []
  tk i := (assoc [] i).getD []
  n := 104
  labelR l := (assoc [] l).getD 0
  loops := assoc []
  labels := assoc []
  joins := assoc [(18, arith_reckon_j18_s k), (13, arith_reckon_j13_s k)]
  xl i e := match e with
    | .nxt => assoc [(13, ([6], []))] i
    | .ret => assoc [(18, ([6, 7], []))] i
    | .exit j => (assoc [] i).bind fun l => assoc l j
    | .goto j => (assoc [(13, [(0, ([], []))])] i).bind fun l => assoc l j
noncomputable def arith_reckon_L : List Code := selI [] (loopsOf arith_reckon_code)
noncomputable def arith_reckon_J : List Code := selI [18, 13] (joinsOf arith_reckon_code)
noncomputable def arith_reckon_S : List Code := scopesOf arith_reckon_code
theorem arith_reckon_j18_eq0 {ρ : Type} (k : Nat) (K : Ex → St UU → Option ρ) (n6 : Int) : exec UX (arith_reckon_cfg k) (arith_reckon_G k) (arith_reckon_J.getD 0 .skip) ⟨[(6, .pv (.int .i64 n6))], []⟩ (nrmK UX (arith_reckon_cfg k) 18 K) = arith_reckon_j18 k (fun n6 e7 => K .ret ⟨[(6, .pv (.int .i64 n6)), (7, .pv (.int .i64 e7))], []⟩) n6 := by kernel_rfl
theorem arith_reckon_j18_ok0 {ρ : Type} (k : Nat) : JoinOK UX (arith_reckon_cfg (ρ := ρ) k) (arith_reckon_G k) (arith_reckon_J.getD 0 .skip) 18 (arith_reckon_j18_s k) := by
  intro s K r h
  obtain ⟨env, hp⟩ := s
  unfold arith_reckon_j18_s at h
  replace h := popS_inv h; obtain ⟨v1, e2, rfl, h⟩ := h
  replace h := asI_inv h; obtain ⟨n6, rfl, h⟩ := h
  replace h := popN_inv h; obtain ⟨rfl, h⟩ := h
  replace h := popN_inv h; obtain ⟨rfl, h⟩ := h
  exact (arith_reckon_j18_eq0 k K n6).trans h
theorem arith_reckon_j13_eq1 {ρ : Type} (k : Nat) (K : Ex → St UU → Option ρ) (a1 : Int) (b2 : Int) : exec UX (arith_reckon_cfg k) (arith_reckon_G k) (arith_reckon_J.getD 1 .skip) ⟨[(1, .pv (.int .i64 a1)), (2, .pv (.int .i64 b2))], []⟩ (nrmK UX (arith_reckon_cfg k) 13 K) = arith_reckon_j13 k (K (.goto 0) ⟨[], []⟩) (fun n6 => K .nxt ⟨[(6, .pv (.int .i64 n6))], []⟩) a1 b2 := by kernel_rfl
theorem arith_reckon_j13_ok1 {ρ : Type} (k : Nat) : JoinOK UX (arith_reckon_cfg (ρ := ρ) k) (arith_reckon_G k) (arith_reckon_J.getD 1 .skip) 13 (arith_reckon_j13_s k) := by
  intro s K r h
  obtain ⟨env, hp⟩ := s
  unfold arith_reckon_j13_s at h
  replace h := popS_inv h; obtain ⟨v1, e2, rfl, h⟩ := h
  replace h := asI_inv h; obtain ⟨a1, rfl, h⟩ := h
  replace h := popS_inv h; obtain ⟨v3, e4, rfl, h⟩ := h
  replace h := asI_inv h; obtain ⟨b2, rfl, h⟩ := h
  replace h := popN_inv h; obtain ⟨rfl, h⟩ := h
  replace h := popN_inv h; obtain ⟨rfl, h⟩ := h
  exact (arith_reckon_j13_eq1 k K a1 b2).trans h
theorem arith_reckon_cok {ρ : Type} (k : Nat) : COK (arith_reckon_cfg (ρ := ρ) k) (arith_reckon_G k) arith_reckon_code :=
  cok_of (tl := []) (tj := [(18, arith_reckon_j18_s k), (13, arith_reckon_j13_s k)]) (tb := []) rfl rfl rfl (nil_all (by kernel_rfl)) (all_nth 2 (by kernel_rfl) ⟨join_case (by kernel_rfl) rfl (arith_reckon_j13_ok1 k), join_case (by kernel_rfl) rfl (arith_reckon_j18_ok0 k), trivial⟩) (fun p hp => by cases hp)
noncomputable def arith_reckon_enc (r : Int × Int) : AV UU := .pv (.tup [.int .i64 r.1, .int .i64 r.2])
noncomputable def arith_reckon_dec (v : AV UU) (_ : List (List (AV UU))) : Option (Int × Int) :=
asT v fun q1 =>
popA q1 fun p2 q3 =>
asI .i64 (.pv p2) fun r0 =>
popA q3 fun p4 q5 =>
asI .i64 (.pv p4) fun r1 =>
popN q5 <|
some (r0, r1)
theorem arith_reckon_dec_enc (v : AV UU) (b : List (List (AV UU))) (r : Int × Int) (h : arith_reckon_dec v b = some r) : v = arith_reckon_enc r := by
  unfold arith_reckon_dec at h
  replace h := asT_inv h; obtain ⟨q1, rfl, h⟩ := h
  replace h := popA_inv h; obtain ⟨p2, q3, rfl, h⟩ := h
  replace h := asI_inv h; obtain ⟨r0, e, h⟩ := h; cases e
  replace h := popA_inv h; obtain ⟨p4, q5, rfl, h⟩ := h
  replace h := asI_inv h; obtain ⟨r1, e, h⟩ := h; cases e
  replace h := popN_inv h; obtain ⟨rfl, h⟩ := h
  cases h
  rfl
theorem arith_reckon_eq (k : Nat) (op0 : Int) (a1 : Int) (b2 : Int) : bodyK UX (arith_reckon_cfg k) (arith_reckon_G k) Tryd.f44 [.pv (.int .i64 op0), .pv (.int .i64 a1), .pv (.int .i64 b2)] [] arith_reckon_dec = arith_reckon k op0 a1 b2 := by kernel_rfl
theorem arith_reckon_con (k : Nat) (op0 : Int) (a1 : Int) (b2 : Int) (r : Int × Int) (h : arith_reckon k op0 a1 b2 = some r) : Con (X := UX) Tryd.prog 44 [.pv (.int .i64 op0), .pv (.int .i64 a1), .pv (.int .i64 b2)] [] (arith_reckon_enc r) [] :=
  con_of_body xok tok Tryd.func44 arith_reckon_body (arith_reckon_gok k) rfl (arith_reckon_cok k) (of_decide_eq_true (by kernel_rfl)) arith_reckon_dec_enc ((arith_reckon_eq k op0 a1 b2).trans h)
noncomputable def arith_reckon_an {ρ : Type} (k : Nat) : An UX ρ := fun args bx K =>
popA args fun v1 a2 =>
asI .i64 v1 fun op0 =>
popA a2 fun v3 a4 =>
asI .i64 v3 fun a1 =>
popA a4 fun v5 a6 =>
asI .i64 v5 fun b2 =>
popN a6 <|
popN bx <|
(arith_reckon k op0 a1 b2).bind fun r => K (arith_reckon_enc r) []
theorem arith_reckon_ok {ρ : Type} (k : Nat) : AnsOK Tryd.prog 44 (arith_reckon_an (ρ := ρ) k) := by
  intro args bx K r h
  unfold arith_reckon_an at h
  replace h := popA_inv h; obtain ⟨v1, a2, rfl, h⟩ := h
  replace h := asI_inv h; obtain ⟨op0, rfl, h⟩ := h
  replace h := popA_inv h; obtain ⟨v3, a4, rfl, h⟩ := h
  replace h := asI_inv h; obtain ⟨a1, rfl, h⟩ := h
  replace h := popA_inv h; obtain ⟨v5, a6, rfl, h⟩ := h
  replace h := asI_inv h; obtain ⟨b2, rfl, h⟩ := h
  replace h := popN_inv h; obtain ⟨rfl, h⟩ := h
  replace h := popN_inv h; obtain ⟨rfl, h⟩ := h
  replace h := bind_inv h
  obtain ⟨x, hx, h⟩ := h
  exact ⟨there_of Tryd.func44 (by kernel_rfl) arith_reckon_body, _, _, h, arith_reckon_con k op0 a1 b2 x hx⟩

/-! cadastre/arith.Do -/
noncomputable def arith_Do_code : Code := match Tryd.f39.body with | some c => c | none => .skip
theorem arith_Do_body : Tryd.f39.body = some arith_Do_code := by kernel_rfl
noncomputable def arith_Do_G {ρ : Type} (k : Nat) : Ans UX ρ := gk 37 (value_All_an k) (gk 44 (arith_reckon_an k) (gk 38 (value_Int_an k) (gnil)))
theorem arith_Do_gok {ρ : Type} (k : Nat) : GOK Tryd.prog (arith_Do_G (ρ := ρ) k) := gok_cons (value_All_ok k) (gok_cons (arith_reckon_ok k) (gok_cons (value_Int_ok k) (gok_nil)))
noncomputable def arith_Do_j7_s {ρ : Type} (k : Nat) : Run UX ρ := fun s K =>
popS 0 s.env fun v1 e2 =>
asI .i64 v1 fun op0 =>
popS 4 e2 fun v3 e4 =>
asP 4 0 v3 <|
popS 5 e4 fun v5 e6 =>
asP 5 0 v5 <|
popS 6 e6 fun v7 e8 =>
asP 6 0 v7 <|
popN e8 <|
popB 4 s.hp fun c9 e10 =>
popA c9 fun v11 c12 =>
asI .i64 v11 fun z13 =>
popA c12 fun v14 c15 =>
asI .i64 v14 fun z16 =>
popA c15 fun v17 c18 =>
asS v17 fun z19 =>
popN c18 <|
popB 5 e10 fun c20 e21 =>
popA c20 fun v22 c23 =>
asI .i64 v22 fun z24 =>
popA c23 fun v25 c26 =>
asI .i64 v25 fun z27 =>
popA c26 fun v28 c29 =>
asS v28 fun z30 =>
popN c29 <|
popB 6 e21 fun c31 e32 =>
popA c31 fun v33 c34 =>
asI .i64 v33 fun z35 =>
popA c34 fun v36 c37 =>
asI .i64 v36 fun z38 =>
popA c37 fun v39 c40 =>
asS v39 fun z41 =>
popN c40 <|
popN e32 <|
arith_Do_j7 k (fun t7 t6 => K .ret ⟨[(6, .ptr 6 0), (7, .pv (.int .i64 t7))], [(6, [.pv (.int .i64 t6.f0), .pv (.int .i64 t6.f1), .pv (.str t6.f2)])]⟩) (fun op0 a4 b5 t6 => K .nxt ⟨[(0, .pv (.int .i64 op0)), (4, .ptr 4 0), (5, .ptr 5 0), (6, .ptr 6 0)], [(4, [.pv (.int .i64 a4.f0), .pv (.int .i64 a4.f1), .pv (.str a4.f2)]), (5, [.pv (.int .i64 b5.f0), .pv (.int .i64 b5.f1), .pv (.str b5.f2)]), (6, [.pv (.int .i64 t6.f0), .pv (.int .i64 t6.f1), .pv (.str t6.f2)])]⟩) op0 (⟨z13, z16, z19⟩ : S23) (⟨z24, z27, z30⟩ : S23) (⟨z35, z38, z41⟩ : S23)
noncomputable def arith_Do_j5_s {ρ : Type} (k : Nat) : Run UX ρ := fun s K =>
popS 0 s.env fun v1 e2 =>
asI .i64 v1 fun op0 =>
popS 4 e2 fun v3 e4 =>
asP 4 0 v3 <|
popS 5 e4 fun v5 e6 =>
asP 5 0 v5 <|
popS 6 e6 fun v7 e8 =>
asP 6 0 v7 <|
popN e8 <|
popB 4 s.hp fun c9 e10 =>
popA c9 fun v11 c12 =>
asI .i64 v11 fun z13 =>
popA c12 fun v14 c15 =>
asI .i64 v14 fun z16 =>
popA c15 fun v17 c18 =>
asS v17 fun z19 =>
popN c18 <|
popB 5 e10 fun c20 e21 =>
popA c20 fun v22 c23 =>
asI .i64 v22 fun z24 =>
popA c23 fun v25 c26 =>
asI .i64 v25 fun z27 =>
popA c26 fun v28 c29 =>
asS v28 fun z30 =>
popN c29 <|
popB 6 e21 fun c31 e32 =>
popA c31 fun v33 c34 =>
asI .i64 v33 fun z35 =>
popA c34 fun v36 c37 =>
asI .i64 v36 fun z38 =>
popA c37 fun v39 c40 =>
asS v39 fun z41 =>
popN c40 <|
popN e32 <|
arith_Do_j5 k (fun t7 t6 => K .ret ⟨[(6, .ptr 6 0), (7, .pv (.int .i64 t7))], [(6, [.pv (.int .i64 t6.f0), .pv (.int .i64 t6.f1), .pv (.str t6.f2)])]⟩) (fun op0 a4 b5 t6 => K .nxt ⟨[(0, .pv (.int .i64 op0)), (4, .ptr 4 0), (5, .ptr 5 0), (6, .ptr 6 0)], [(4, [.pv (.int .i64 a4.f0), .pv (.int .i64 a4.f1), .pv (.str a4.f2)]), (5, [.pv (.int .i64 b5.f0), .pv (.int .i64 b5.f1), .pv (.str b5.f2)]), (6, [.pv (.int .i64 t6.f0), .pv (.int .i64 t6.f1), .pv (.str t6.f2)])]⟩) op0 (⟨z13, z16, z19⟩ : S23) (⟨z24, z27, z30⟩ : S23) (⟨z35, z38, z41⟩ : S23)
noncomputable def arith_Do_j3_s {ρ : Type} (k : Nat) : Run UX ρ := fun s K =>
popS 0 s.env fun v1 e2 =>
asI .i64 v1 fun op0 =>
popS 4 e2 fun v3 e4 =>
asP 4 0 v3 <|
popS 5 e4 fun v5 e6 =>
asP 5 0 v5 <|
popS 6 e6 fun v7 e8 =>
asP 6 0 v7 <|
popN e8 <|
popB 4 s.hp fun c9 e10 =>
popA c9 fun v11 c12 =>
asI .i64 v11 fun z13 =>
popA c12 fun v14 c15 =>
asI .i64 v14 fun z16 =>
popA c15 fun v17 c18 =>
asS v17 fun z19 =>
popN c18 <|
popB 5 e10 fun c20 e21 =>
popA c20 fun v22 c23 =>
asI .i64 v22 fun z24 =>
popA c23 fun v25 c26 =>
asI .i64 v25 fun z27 =>
popA c26 fun v28 c29 =>
asS v28 fun z30 =>
popN c29 <|
popB 6 e21 fun c31 e32 =>
popA c31 fun v33 c34 =>
asI .i64 v33 fun z35 =>
popA c34 fun v36 c37 =>
asI .i64 v36 fun z38 =>
popA c37 fun v39 c40 =>
asS v39 fun z41 =>
popN c40 <|
popN e32 <|
arith_Do_j3 k (fun t7 t6 => K .ret ⟨[(6, .ptr 6 0), (7, .pv (.int .i64 t7))], [(6, [.pv (.int .i64 t6.f0), .pv (.int .i64 t6.f1), .pv (.str t6.f2)])]⟩) (fun op0 a4 b5 t6 => K .nxt ⟨[(0, .pv (.int .i64 op0)), (4, .ptr 4 0), (5, .ptr 5 0), (6, .ptr 6 0)], [(4, [.pv (.int .i64 a4.f0), .pv (.int .i64 a4.f1), .pv (.str a4.f2)]), (5, [.pv (.int .i64 b5.f0), .pv (.int .i64 b5.f1), .pv (.str b5.f2)]), (6, [.pv (.int .i64 t6.f0), .pv (.int .i64 t6.f1), .pv (.str t6.f2)])]⟩) op0 (⟨z13, z16, z19⟩ : S23) (⟨z24, z27, z30⟩ : S23) (⟨z35, z38, z41⟩ : S23)
noncomputable def arith_Do_j9_s {ρ : Type} (k : Nat) : Run UX ρ := fun s K =>
popS 0 s.env fun v1 e2 =>
asI .i64 v1 fun op0 =>
popS 4 e2 fun v3 e4 =>
asP 4 0 v3 <|
popS 5 e4 fun v5 e6 =>
asP 5 0 v5 <|
popS 6 e6 fun v7 e8 =>
asP 6 0 v7 <|
popN e8 <|
popB 4 s.hp fun c9 e10 =>
popA c9 fun v11 c12 =>
asI .i64 v11 fun z13 =>
popA c12 fun v14 c15 =>
asI .i64 v14 fun z16 =>
popA c15 fun v17 c18 =>
asS v17 fun z19 =>
popN c18 <|
popB 5 e10 fun c20 e21 =>
popA c20 fun v22 c23 =>
asI .i64 v22 fun z24 =>
popA c23 fun v25 c26 =>
asI .i64 v25 fun z27 =>
popA c26 fun v28 c29 =>
asS v28 fun z30 =>
popN c29 <|
popB 6 e21 fun c31 e32 =>
popA c31 fun v33 c34 =>
asI .i64 v33 fun z35 =>
popA c34 fun v36 c37 =>
asI .i64 v36 fun z38 =>
popA c37 fun v39 c40 =>
asS v39 fun z41 =>
popN c40 <|
popN e32 <|
arith_Do_j9 k (fun t7 t6 => K .ret ⟨[(6, .ptr 6 0), (7, .pv (.int .i64 t7))], [(6, [.pv (.int .i64 t6.f0), .pv (.int .i64 t6.f1), .pv (.str t6.f2)])]⟩) op0 (⟨z13, z16, z19⟩ : S23) (⟨z24, z27, z30⟩ : S23) (⟨z35, z38, z41⟩ : S23)
noncomputable def arith_Do_cfg {ρ : Type} (k : Nat) : Cfg UX ρ where
  live i := (assoc [(0, [0, 1, 2]), (1, [0, 4, 5, 6]), (2, [6]), (3, [0, 4, 5, 6]), (4, [6]), (5, [0, 4, 5, 6]), (6, [6]), (7, [0, 4, 5, 6]), (8, [6]), (9, [0, 4, 5, 6]), (10, [6, 8, 9]), (11, [6, 9]), (12, [6, 8])] i).getD []
  boxes i := (assoc [(0, []), (1, [4, 5, 6]), (2, [6]), (3, [4, 5, 6]), (4, [6]), (5, [4, 5, 6]), (6, [6]), (7, [4, 5, 6]), (8, [6]), (9, [4, 5, 6]), (10, [6]), (11, [6]), (12, [6])] i).getD []
  tk i := (assoc [] i).getD []
  n := 73
  labelR l := (assoc [] l).getD 0
  loops := assoc []
  labels := assoc []
  joins := assoc [(7, arith_Do_j7_s k), (5, arith_Do_j5_s k), (3, arith_Do_j3_s k), (9, arith_Do_j9_s k)]
  xl i e := match e with
    | .nxt => assoc [(7, ([0, 4, 5, 6], [4, 5, 6])), (5, ([0, 4, 5, 6], [4, 5, 6])), (3, ([0, 4, 5, 6], [4, 5, 6]))] i
    | .ret => assoc [(7, ([6, 7], [6])), (5, ([6, 7], [6])), (3, ([6, 7], [6])), (9, ([6, 7], [6]))] i
    | .exit j => (assoc [] i).bind fun l => assoc l j
    | .goto j => (assoc [] i).bind fun l => assoc l j
noncomputable def arith_Do_L : List Code := selI [] (loopsOf arith_Do_code)
noncomputable def arith_Do_J : List Code := selI [7, 5, 3, 9] (joinsOf arith_Do_code)
noncomputable def arith_Do_S : List Code := scopesOf arith_Do_code
theorem arith_Do_j9_eq0 {ρ : Type} (k : Nat) (K : Ex → St UU → Option ρ) (op0 : Int) (a4 : S23) (b5 : S23) (t6 : S23) : exec UX (arith_Do_cfg k) (arith_Do_G k) (arith_Do_J.getD 0 .skip) ⟨[(0, .pv (.int .i64 op0)), (4, .ptr 4 0), (5, .ptr 5 0), (6, .ptr 6 0)], [(4, [.pv (.int .i64 a4.f0), .pv (.int .i64 a4.f1), .pv (.str a4.f2)]), (5, [.pv (.int .i64 b5.f0), .pv (.int .i64 b5.f1), .pv (.str b5.f2)]), (6, [.pv (.int .i64 t6.f0), .pv (.int .i64 t6.f1), .pv (.str t6.f2)])]⟩ (nrmK UX (arith_Do_cfg k) 9 K) = arith_Do_j9 k (fun t7 t6 => K .ret ⟨[(6, .ptr 6 0), (7, .pv (.int .i64 t7))], [(6, [.pv (.int .i64 t6.f0), .pv (.int .i64 t6.f1), .pv (.str t6.f2)])]⟩) op0 a4 b5 t6 := by kernel_rfl
theorem arith_Do_j9_ok0 {ρ : Type} (k : Nat) : JoinOK UX (arith_Do_cfg (ρ := ρ) k) (arith_Do_G k) (arith_Do_J.getD 0 .skip) 9 (arith_Do_j9_s k) := by
  intro s K r h
  obtain ⟨env, hp⟩ := s
  unfold arith_Do_j9_s at h
  replace h := popS_inv h; obtain ⟨v1, e2, rfl, h⟩ := h
  replace h := asI_inv h; obtain ⟨op0, rfl, h⟩ := h
  replace h := popS_inv h; obtain ⟨v3, e4, rfl, h⟩ := h
  replace h := asP_inv h; obtain ⟨rfl, h⟩ := h
  replace h := popS_inv h; obtain ⟨v5, e6, rfl, h⟩ := h
  replace h := asP_inv h; obtain ⟨rfl, h⟩ := h
  replace h := popS_inv h; obtain ⟨v7, e8, rfl, h⟩ := h
  replace h := asP_inv h; obtain ⟨rfl, h⟩ := h
  replace h := popN_inv h; obtain ⟨rfl, h⟩ := h
  replace h := popB_inv h; obtain ⟨c9, e10, rfl, h⟩ := h
  replace h := popA_inv h; obtain ⟨v11, c12, rfl, h⟩ := h
  replace h := asI_inv h; obtain ⟨z13, rfl, h⟩ := h
  replace h := popA_inv h; obtain ⟨v14, c15, rfl, h⟩ := h
  replace h := asI_inv h; obtain ⟨z16, rfl, h⟩ := h
  replace h := popA_inv h; obtain ⟨v17, c18, rfl, h⟩ := h
  replace h := asS_inv h; obtain ⟨z19, rfl, h⟩ := h
  replace h := popN_inv h; obtain ⟨rfl, h⟩ := h
  replace h := popB_inv h; obtain ⟨c20, e21, rfl, h⟩ := h
  replace h := popA_inv h; obtain ⟨v22, c23, rfl, h⟩ := h
  replace h := asI_inv h; obtain ⟨z24, rfl, h⟩ := h
  replace h := popA_inv h; obtain ⟨v25, c26, rfl, h⟩ := h
  replace h := asI_inv h; obtain ⟨z27, rfl, h⟩ := h
  replace h := popA_inv h; obtain ⟨v28, c29, rfl, h⟩ := h
  replace h := asS_inv h; obtain ⟨z30, rfl, h⟩ := h
  replace h := popN_inv h; obtain ⟨rfl, h⟩ := h
  replace h := popB_inv h; obtain ⟨c31, e32, rfl, h⟩ := h
  replace h := popA_inv h; obtain ⟨v33, c34, rfl, h⟩ := h
  replace h := asI_inv h; obtain ⟨z35, rfl, h⟩ := h
  replace h := popA_inv h; obtain ⟨v36, c37, rfl, h⟩ := h
  replace h := asI_inv h; obtain ⟨z38, rfl, h⟩ := h
  replace h := popA_inv h; obtain ⟨v39, c40, rfl, h⟩ := h
  replace h := asS_inv h; obtain ⟨z41, rfl, h⟩ := h
  replace h := popN_inv h; obtain ⟨rfl, h⟩ := h
  replace h := popN_inv h; obtain ⟨rfl, h⟩ := h
  exact (arith_Do_j9_eq0 k K op0 (⟨z13, z16, z19⟩ : S23) (⟨z24, z27, z30⟩ : S23) (⟨z35, z38, z41⟩ : S23)).trans h
theorem arith_Do_j3_eq1 {ρ : Type} (k : Nat) (K : Ex → St UU → Option ρ) (op0 : Int) (a4 : S23) (b5 : S23) (t6 : S23) : exec UX (arith_Do_cfg k) (arith_Do_G k) (arith_Do_J.getD 1 .skip) ⟨[(0, .pv (.int .i64 op0)), (4, .ptr 4 0), (5, .ptr 5 0), (6, .ptr 6 0)], [(4, [.pv (.int .i64 a4.f0), .pv (.int .i64 a4.f1), .pv (.str a4.f2)]), (5, [.pv (.int .i64 b5.f0), .pv (.int .i64 b5.f1), .pv (.str b5.f2)]), (6, [.pv (.int .i64 t6.f0), .pv (.int .i64 t6.f1), .pv (.str t6.f2)])]⟩ (nrmK UX (arith_Do_cfg k) 3 K) = arith_Do_j3 k (fun t7 t6 => K .ret ⟨[(6, .ptr 6 0), (7, .pv (.int .i64 t7))], [(6, [.pv (.int .i64 t6.f0), .pv (.int .i64 t6.f1), .pv (.str t6.f2)])]⟩) (fun op0 a4 b5 t6 => K .nxt ⟨[(0, .pv (.int .i64 op0)), (4, .ptr 4 0), (5, .ptr 5 0), (6, .ptr 6 0)], [(4, [.pv (.int .i64 a4.f0), .pv (.int .i64 a4.f1), .pv (.str a4.f2)]), (5, [.pv (.int .i64 b5.f0), .pv (.int .i64 b5.f1), .pv (.str b5.f2)]), (6, [.pv (.int .i64 t6.f0), .pv (.int .i64 t6.f1), .pv (.str t6.f2)])]⟩) op0 a4 b5 t6 := by kernel_rfl
theorem arith_Do_j3_ok1 {ρ : Type} (k : Nat) : JoinOK UX (arith_Do_cfg (ρ := ρ) k) (arith_Do_G k) (arith_Do_J.getD 1 .skip) 3 (arith_Do_j3_s k) := by
  intro s K r h
  obtain ⟨env, hp⟩ := s
  unfold arith_Do_j3_s at h
  replace h := popS_inv h; obtain ⟨v1, e2, rfl, h⟩ := h
  replace h := asI_inv h; obtain ⟨op0, rfl, h⟩ := h
  replace h := popS_inv h; obtain ⟨v3, e4, rfl, h⟩ := h
  replace h := asP_inv h; obtain ⟨rfl, h⟩ := h
  replace h := popS_inv h; obtain ⟨v5, e6, rfl, h⟩ := h
  replace h := asP_inv h; obtain ⟨rfl, h⟩ := h
  replace h := popS_inv h; obtain ⟨v7, e8, rfl, h⟩ := h
  replace h := asP_inv h; obtain ⟨rfl, h⟩ := h
  replace h := popN_inv h; obtain ⟨rfl, h⟩ := h
  replace h := popB_inv h; obtain ⟨c9, e10, rfl, h⟩ := h
  replace h := popA_inv h; obtain ⟨v11, c12, rfl, h⟩ := h
  replace h := asI_inv h; obtain ⟨z13, rfl, h⟩ := h
  replace h := popA_inv h; obtain ⟨v14, c15, rfl, h⟩ := h
  replace h := asI_inv h; obtain ⟨z16, rfl, h⟩ := h
  replace h := popA_inv h; obtain ⟨v17, c18, rfl, h⟩ := h
  replace h := asS_inv h; obtain ⟨z19, rfl, h⟩ := h
  replace h := popN_inv h; obtain ⟨rfl, h⟩ := h
  replace h := popB_inv h; obtain ⟨c20, e21, rfl, h⟩ := h
  replace h := popA_inv h; obtain ⟨v22, c23, rfl, h⟩ := h
  replace h := asI_inv h; obtain ⟨z24, rfl, h⟩ := h
  replace h := popA_inv h; obtain ⟨v25, c26, rfl, h⟩ := h
  replace h := asI_inv h; obtain ⟨z27, rfl, h⟩ := h
  replace h := popA_inv h; obtain ⟨v28, c29, rfl, h⟩ := h
  replace h := asS_inv h; obtain ⟨z30, rfl, h⟩ := h
  replace h := popN_inv h; obtain ⟨rfl, h⟩ := h
  replace h := popB_inv h; obtain ⟨c31, e32, rfl, h⟩ := h
  replace h := popA_inv h; obtain ⟨v33, c34, rfl, h⟩ := h
  replace h := asI_inv h; obtain ⟨z35, rfl, h⟩ := h
  replace h := popA_inv h; obtain ⟨v36, c37, rfl, h⟩ := h
  replace h := asI_inv h; obtain ⟨z38, rfl, h⟩ := h
  replace h := popA_inv h; obtain ⟨v39, c40, rfl, h⟩ := h
  replace h := asS_inv h; obtain ⟨z41, rfl, h⟩ := h
  replace h := popN_inv h; obtain ⟨rfl, h⟩ := h
  replace h := popN_inv h; obtain ⟨rfl, h⟩ := h
  exact (arith_Do_j3_eq1 k K op0 (⟨z13, z16, z19⟩ : S23) (⟨z24, z27, z30⟩ : S23) (⟨z35, z38, z41⟩ : S23)).trans h
theorem arith_Do_j5_eq2 {ρ : Type} (k : Nat) (K : Ex → St UU → Option ρ) (op0 : Int) (a4 : S23) (b5 : S23) (t6 : S23) : exec UX (arith_Do_cfg k) (arith_Do_G k) (arith_Do_J.getD 2 .skip) ⟨[(0, .pv (.int .i64 op0)), (4, .ptr 4 0), (5, .ptr 5 0), (6, .ptr 6 0)], [(4, [.pv (.int .i64 a4.f0), .pv (.int .i64 a4.f1), .pv (.str a4.f2)]), (5, [.pv (.int .i64 b5.f0), .pv (.int .i64 b5.f1), .pv (.str b5.f2)]), (6, [.pv (.int .i64 t6.f0), .pv (.int .i64 t6.f1), .pv (.str t6.f2)])]⟩ (nrmK UX (arith_Do_cfg k) 5 K) = arith_Do_j5 k (fun t7 t6 => K .ret ⟨[(6, .ptr 6 0), (7, .pv (.int .i64 t7))], [(6, [.pv (.int .i64 t6.f0), .pv (.int .i64 t6.f1), .pv (.str t6.f2)])]⟩) (fun op0 a4 b5 t6 => K .nxt ⟨[(0, .pv (.int .i64 op0)), (4, .ptr 4 0), (5, .ptr 5 0), (6, .ptr 6 0)], [(4, [.pv (.int .i64 a4.f0), .pv (.int .i64 a4.f1), .pv (.str a4.f2)]), (5, [.pv (.int .i64 b5.f0), .pv (.int .i64 b5.f1), .pv (.str b5.f2)]), (6, [.pv (.int .i64 t6.f0), .pv (.int .i64 t6.f1), .pv (.str t6.f2)])]⟩) op0 a4 b5 t6 := by kernel_rfl
theorem arith_Do_j5_ok2 {ρ : Type} (k : Nat) : JoinOK UX (arith_Do_cfg (ρ := ρ) k) (arith_Do_G k) (arith_Do_J.getD 2 .skip) 5 (arith_Do_j5_s k) := by
  intro s K r h
  obtain ⟨env, hp⟩ := s
  unfold arith_Do_j5_s at h
  replace h := popS_inv h; obtain ⟨v1, e2, rfl, h⟩ := h
  replace h := asI_inv h; obtain ⟨op0, rfl, h⟩ := h
  replace h := popS_inv h; obtain ⟨v3, e4, rfl, h⟩ := h
  replace h := asP_inv h; obtain ⟨rfl, h⟩ := h
  replace h := popS_inv h; obtain ⟨v5, e6, rfl, h⟩ := h
  replace h := asP_inv h; obtain ⟨rfl, h⟩ := h
  replace h := popS_inv h; obtain ⟨v7, e8, rfl, h⟩ := h
  replace h := asP_inv h; obtain ⟨rfl, h⟩ := h
  replace h := popN_inv h; obtain ⟨rfl, h⟩ := h
  replace h := popB_inv h; obtain ⟨c9, e10, rfl, h⟩ := h
  replace h := popA_inv h; obtain ⟨v11, c12, rfl, h⟩ := h
  replace h := asI_inv h; obtain ⟨z13, rfl, h⟩ := h
  replace h := popA_inv h; obtain ⟨v14, c15, rfl, h⟩ := h
  replace h := asI_inv h; obtain ⟨z16, rfl, h⟩ := h
  replace h := popA_inv h; obtain ⟨v17, c18, rfl, h⟩ := h
  replace h := asS_inv h; obtain ⟨z19, rfl, h⟩ := h
  replace h := popN_inv h; obtain ⟨rfl, h⟩ := h
  replace h := popB_inv h; obtain ⟨c20, e21, rfl, h⟩ := h
  replace h := popA_inv h; obtain ⟨v22, c23, rfl, h⟩ := h
  replace h := asI_inv h; obtain ⟨z24, rfl, h⟩ := h
  replace h := popA_inv h; obtain ⟨v25, c26, rfl, h⟩ := h
  replace h := asI_inv h; obtain ⟨z27, rfl, h⟩ := h
  replace h := popA_inv h; obtain ⟨v28, c29, rfl, h⟩ := h
  replace h := asS_inv h; obtain ⟨z30, rfl, h⟩ := h
  replace h := popN_inv h; obtain ⟨rfl, h⟩ := h
  replace h := popB_inv h; obtain ⟨c31, e32, rfl, h⟩ := h
  replace h := popA_inv h; obtain ⟨v33, c34, rfl, h⟩ := h
  replace h := asI_inv h; obtain ⟨z35, rfl, h⟩ := h
  replace h := popA_inv h; obtain ⟨v36, c37, rfl, h⟩ := h
  replace h := asI_inv h; obtain ⟨z38, rfl, h⟩ := h
  replace h := popA_inv h; obtain ⟨v39, c40, rfl, h⟩ := h
  replace h := asS_inv h; obtain ⟨z41, rfl, h⟩ := h
  replace h := popN_inv h; obtain ⟨rfl, h⟩ := h
  replace h := popN_inv h; obtain ⟨rfl, h⟩ := h
  exact (arith_Do_j5_eq2 k K op0 (⟨z13, z16, z19⟩ : S23) (⟨z24, z27, z30⟩ : S23) (⟨z35, z38, z41⟩ : S23)).trans h
theorem arith_Do_j7_eq3 {ρ : Type} (k : Nat) (K : Ex → St UU → Option ρ) (op0 : Int) (a4 : S23) (b5 : S23) (t6 : S23) : exec UX (arith_Do_cfg k) (arith_Do_G k) (arith_Do_J.getD 3 .skip) ⟨[(0, .pv (.int .i64 op0)), (4, .ptr 4 0), (5, .ptr 5 0), (6, .ptr 6 0)], [(4, [.pv (.int .i64 a4.f0), .pv (.int .i64 a4.f1), .pv (.str a4.f2)]), (5, [.pv (.int .i64 b5.f0), .pv (.int .i64 b5.f1), .pv (.str b5.f2)]), (6, [.pv (.int .i64 t6.f0), .pv (.int .i64 t6.f1), .pv (.str t6.f2)])]⟩ (nrmK UX (arith_Do_cfg k) 7 K) = arith_Do_j7 k (fun t7 t6 => K .ret ⟨[(6, .ptr 6 0), (7, .pv (.int .i64 t7))], [(6, [.pv (.int .i64 t6.f0), .pv (.int .i64 t6.f1), .pv (.str t6.f2)])]⟩) (fun op0 a4 b5 t6 => K .nxt ⟨[(0, .pv (.int .i64 op0)), (4, .ptr 4 0), (5, .ptr 5 0), (6, .ptr 6 0)], [(4, [.pv (.int .i64 a4.f0), .pv (.int .i64 a4.f1), .pv (.str a4.f2)]), (5, [.pv (.int .i64 b5.f0), .pv (.int .i64 b5.f1), .pv (.str b5.f2)]), (6, [.pv (.int .i64 t6.f0), .pv (.int .i64 t6.f1), .pv (.str t6.f2)])]⟩) op0 a4 b5 t6 := by kernel_rfl
theorem arith_Do_j7_ok3 {ρ : Type} (k : Nat) : JoinOK UX (arith_Do_cfg (ρ := ρ) k) (arith_Do_G k) (arith_Do_J.getD 3 .skip) 7 (arith_Do_j7_s k) := by
  intro s K r h
  obtain ⟨env, hp⟩ := s
  unfold arith_Do_j7_s at h
  replace h := popS_inv h; obtain ⟨v1, e2, rfl, h⟩ := h
  replace h := asI_inv h; obtain ⟨op0, rfl, h⟩ := h
  replace h := popS_inv h; obtain ⟨v3, e4, rfl, h⟩ := h
  replace h := asP_inv h; obtain ⟨rfl, h⟩ := h
  replace h := popS_inv h; obtain ⟨v5, e6, rfl, h⟩ := h
  replace h := asP_inv h; obtain ⟨rfl, h⟩ := h
  replace h := popS_inv h; obtain ⟨v7, e8, rfl, h⟩ := h
  replace h := asP_inv h; obtain ⟨rfl, h⟩ := h
  replace h := popN_inv h; obtain ⟨rfl, h⟩ := h
  replace h := popB_inv h; obtain ⟨c9, e10, rfl, h⟩ := h
  replace h := popA_inv h; obtain ⟨v11, c12, rfl, h⟩ := h
  replace h := asI_inv h; obtain ⟨z13, rfl, h⟩ := h
  replace h := popA_inv h; obtain ⟨v14, c15, rfl, h⟩ := h
  replace h := asI_inv h; obtain ⟨z16, rfl, h⟩ := h
  replace h := popA_inv h; obtain ⟨v17, c18, rfl, h⟩ := h
  replace h := asS_inv h; obtain ⟨z19, rfl, h⟩ := h
  replace h := popN_inv h; obtain ⟨rfl, h⟩ := h
  replace h := popB_inv h; obtain ⟨c20, e21, rfl, h⟩ := h
  replace h := popA_inv h; obtain ⟨v22, c23, rfl, h⟩ := h
  replace h := asI_inv h; obtain ⟨z24, rfl, h⟩ := h
  replace h := popA_inv h; obtain ⟨v25, c26, rfl, h⟩ := h
  replace h := asI_inv h; obtain ⟨z27, rfl, h⟩ := h
  replace h := popA_inv h; obtain ⟨v28, c29, rfl, h⟩ := h
  replace h := asS_inv h; obtain ⟨z30, rfl, h⟩ := h
  replace h := popN_inv h; obtain ⟨rfl, h⟩ := h
  replace h := popB_inv h; obtain ⟨c31, e32, rfl, h⟩ := h
  replace h := popA_inv h; obtain ⟨v33, c34, rfl, h⟩ := h
  replace h := asI_inv h; obtain ⟨z35, rfl, h⟩ := h
  replace h := popA_inv h; obtain ⟨v36, c37, rfl, h⟩ := h
  replace h := asI_inv h; obtain ⟨z38, rfl, h⟩ := h
  replace h := popA_inv h; obtain ⟨v39, c40, rfl, h⟩ := h
  replace h := asS_inv h; obtain ⟨z41, rfl, h⟩ := h
  replace h := popN_inv h; obtain ⟨rfl, h⟩ := h
  replace h := popN_inv h; obtain ⟨rfl, h⟩ := h
  exact (arith_Do_j7_eq3 k K op0 (⟨z13, z16, z19⟩ : S23) (⟨z24, z27, z30⟩ : S23) (⟨z35, z38, z41⟩ : S23)).trans h
theorem arith_Do_cok {ρ : Type} (k : Nat) : COK (arith_Do_cfg (ρ := ρ) k) (arith_Do_G k) arith_Do_code :=
  cok_of (tl := []) (tj := [(7, arith_Do_j7_s k), (5, arith_Do_j5_s k), (3, arith_Do_j3_s k), (9, arith_Do_j9_s k)]) (tb := []) rfl rfl rfl (nil_all (by kernel_rfl)) (all_nth 4 (by kernel_rfl) ⟨join_case (by kernel_rfl) rfl (arith_Do_j7_ok3 k), join_case (by kernel_rfl) rfl (arith_Do_j5_ok2 k), join_case (by kernel_rfl) rfl (arith_Do_j3_ok1 k), join_case (by kernel_rfl) rfl (arith_Do_j9_ok0 k), trivial⟩) (fun p hp => by cases hp)
noncomputable def arith_Do_enc (r : S23 × Int) : AV UU := .pv (.tup [.typ (.s23 r.1), .int .i64 r.2])
noncomputable def arith_Do_dec (v : AV UU) (_ : List (List (AV UU))) : Option (S23 × Int) :=
asT v fun q1 =>
popA q1 fun p2 q3 =>
as_s23 (.pv p2) fun r0 =>
popA q3 fun p4 q5 =>
asI .i64 (.pv p4) fun r1 =>
popN q5 <|
some (r0, r1)
theorem arith_Do_dec_enc (v : AV UU) (b : List (List (AV UU))) (r : S23 × Int) (h : arith_Do_dec v b = some r) : v = arith_Do_enc r := by
  unfold arith_Do_dec at h
  replace h := asT_inv h; obtain ⟨q1, rfl, h⟩ := h
  replace h := popA_inv h; obtain ⟨p2, q3, rfl, h⟩ := h
  replace h := as_s23_inv h; obtain ⟨r0, e, h⟩ := h; cases e
  replace h := popA_inv h; obtain ⟨p4, q5, rfl, h⟩ := h
  replace h := asI_inv h; obtain ⟨r1, e, h⟩ := h; cases e
  replace h := popN_inv h; obtain ⟨rfl, h⟩ := h
  cases h
  rfl
theorem arith_Do_eq (k : Nat) (op0 : Int) (a1 : S23) (b2 : S23) : bodyK UX (arith_Do_cfg k) (arith_Do_G k) Tryd.f39 [.pv (.int .i64 op0), .pv (.typ (.s23 a1)), .pv (.typ (.s23 b2))] [] arith_Do_dec = arith_Do k op0 a1 b2 := by kernel_rfl
theorem arith_Do_con (k : Nat) (op0 : Int) (a1 : S23) (b2 : S23) (r : S23 × Int) (h : arith_Do k op0 a1 b2 = some r) : Con (X := UX) Tryd.prog 39 [.pv (.int .i64 op0), .pv (.typ (.s23 a1)), .pv (.typ (.s23 b2))] [] (arith_Do_enc r) [] :=
  con_of_body xok tok Tryd.func39 arith_Do_body (arith_Do_gok k) rfl (arith_Do_cok k) (of_decide_eq_true (by kernel_rfl)) arith_Do_dec_enc ((arith_Do_eq k op0 a1 b2).trans h)
noncomputable def arith_Do_an {ρ : Type} (k : Nat) : An UX ρ := fun args bx K =>
popA args fun v1 a2 =>
asI .i64 v1 fun op0 =>
popA a2 fun v3 a4 =>
as_s23 v3 fun a1 =>
popA a4 fun v5 a6 =>
as_s23 v5 fun b2 =>
popN a6 <|
popN bx <|
(arith_Do k op0 a1 b2).bind fun r => K (arith_Do_enc r) []
theorem arith_Do_ok {ρ : Type} (k : Nat) : AnsOK Tryd.prog 39 (arith_Do_an (ρ := ρ) k) := by
  intro args bx K r h
  unfold arith_Do_an at h
  replace h := popA_inv h; obtain ⟨v1, a2, rfl, h⟩ := h
  replace h := asI_inv h; obtain ⟨op0, rfl, h⟩ := h
  replace h := popA_inv h; obtain ⟨v3, a4, rfl, h⟩ := h
  replace h := as_s23_inv h; obtain ⟨a1, rfl, h⟩ := h
  replace h := popA_inv h; obtain ⟨v5, a6, rfl, h⟩ := h
  replace h := as_s23_inv h; obtain ⟨b2, rfl, h⟩ := h
  replace h := popN_inv h; obtain ⟨rfl, h⟩ := h
  replace h := popN_inv h; obtain ⟨rfl, h⟩ := h
  replace h := bind_inv h
  obtain ⟨x, hx, h⟩ := h
  exact ⟨there_of Tryd.func39 (by kernel_rfl) arith_Do_body, _, _, h, arith_Do_con k op0 a1 b2 x hx⟩

/-! cadastre/cadastrelaw4.wakes -/
noncomputable def cadastrelaw4_wakes_code : Code := match Tryd.f21.body with | some c => c | none => .skip
theorem cadastrelaw4_wakes_body : Tryd.f21.body = some cadastrelaw4_wakes_code := by kernel_rfl
noncomputable def cadastrelaw4_wakes_G {ρ : Type} (k : Nat) : Ans UX ρ := gk 39 (arith_Do_an k) (gk 19 (cadastrelaw4_num_an k) (gnil))
theorem cadastrelaw4_wakes_gok {ρ : Type} (k : Nat) : GOK Tryd.prog (cadastrelaw4_wakes_G (ρ := ρ) k) := gok_cons (arith_Do_ok k) (gok_cons (cadastrelaw4_num_ok k) (gok_nil))
noncomputable def cadastrelaw4_wakes_cfg {ρ : Type} (k : Nat) : Cfg UX ρ where
  live i := (assoc [(0, []), (1, []), (2, [1, 2])] i).getD []
  boxes i := (assoc [(0, []), (1, []), (2, [1])] i).getD []
  tk i := (assoc [] i).getD []
  n := 17
  labelR l := (assoc [] l).getD 0
  loops := assoc []
  labels := assoc []
  joins := assoc []
  xl i e := match e with
    | .nxt => assoc [] i
    | .ret => assoc [] i
    | .exit j => (assoc [] i).bind fun l => assoc l j
    | .goto j => (assoc [] i).bind fun l => assoc l j
noncomputable def cadastrelaw4_wakes_L : List Code := selI [] (loopsOf cadastrelaw4_wakes_code)
noncomputable def cadastrelaw4_wakes_J : List Code := selI [] (joinsOf cadastrelaw4_wakes_code)
noncomputable def cadastrelaw4_wakes_S : List Code := scopesOf cadastrelaw4_wakes_code
theorem cadastrelaw4_wakes_cok {ρ : Type} (k : Nat) : COK (cadastrelaw4_wakes_cfg (ρ := ρ) k) (cadastrelaw4_wakes_G k) cadastrelaw4_wakes_code :=
  cok_of (tl := []) (tj := []) (tb := []) rfl rfl rfl (nil_all (by kernel_rfl)) (nil_all (by kernel_rfl)) (fun p hp => by cases hp)
noncomputable def cadastrelaw4_wakes_enc (r : Bool) : AV UU := .pv (.bool r)
noncomputable def cadastrelaw4_wakes_dec (v : AV UU) (_ : List (List (AV UU))) : Option Bool :=
asB v fun r0 =>
some r0
theorem cadastrelaw4_wakes_dec_enc (v : AV UU) (b : List (List (AV UU))) (r : Bool) (h : cadastrelaw4_wakes_dec v b = some r) : v = cadastrelaw4_wakes_enc r := by
  unfold cadastrelaw4_wakes_dec at h
  replace h := asB_inv h; obtain ⟨r0, rfl, h⟩ := h
  cases h
  rfl
theorem cadastrelaw4_wakes_eq (k : Nat) : bodyK UX (cadastrelaw4_wakes_cfg k) (cadastrelaw4_wakes_G k) Tryd.f21 [] [] cadastrelaw4_wakes_dec = cadastrelaw4_wakes k := by kernel_rfl
theorem cadastrelaw4_wakes_con (k : Nat) (r : Bool) (h : cadastrelaw4_wakes k = some r) : Con (X := UX) Tryd.prog 21 [] [] (cadastrelaw4_wakes_enc r) [] :=
  con_of_body xok tok Tryd.func21 cadastrelaw4_wakes_body (cadastrelaw4_wakes_gok k) rfl (cadastrelaw4_wakes_cok k) (of_decide_eq_true (by kernel_rfl)) cadastrelaw4_wakes_dec_enc ((cadastrelaw4_wakes_eq k).trans h)
noncomputable def cadastrelaw4_wakes_an {ρ : Type} (k : Nat) : An UX ρ := fun args bx K =>
popN args <|
popN bx <|
(cadastrelaw4_wakes k).bind fun r => K (cadastrelaw4_wakes_enc r) []
theorem cadastrelaw4_wakes_ok {ρ : Type} (k : Nat) : AnsOK Tryd.prog 21 (cadastrelaw4_wakes_an (ρ := ρ) k) := by
  intro args bx K r h
  unfold cadastrelaw4_wakes_an at h
  replace h := popN_inv h; obtain ⟨rfl, h⟩ := h
  replace h := popN_inv h; obtain ⟨rfl, h⟩ := h
  replace h := bind_inv h
  obtain ⟨x, hx, h⟩ := h
  exact ⟨there_of Tryd.func21 (by kernel_rfl) cadastrelaw4_wakes_body, _, _, h, cadastrelaw4_wakes_con k x hx⟩
end Go.Proofs.YtdfmfpbdggefpaaDoor.D
