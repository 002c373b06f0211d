/-
  What the program's functions answer: the printed functions' answers.
-/
import Derived.Test.YtjkgphpmdkbpfaaDoorVG1
namespace Go.Proofs.YtjkgphpmdkbpfaaDoor.V
open Go Go.AX
/-! cadastre/cadastreref2.Null -/
noncomputable def cadastreref2_Null_code : Code := match Tryd.f35.body with | some c => c | none => .skip
theorem cadastreref2_Null_body : Tryd.f35.body = some cadastreref2_Null_code := by kernel_rfl
noncomputable def cadastreref2_Null_G {ρ : Type} (k : Nat) : Ans UX ρ := gk 50 (cadastreref2_Bool_an k) (gnil)
theorem cadastreref2_Null_gok {ρ : Type} (k : Nat) : GOK Tryd.prog (cadastreref2_Null_G (ρ := ρ) k) := gok_cons (cadastreref2_Bool_ok k) (gok_nil)
noncomputable def cadastreref2_Null_cfg {ρ : Type} (k : Nat) : Cfg UX ρ where
  live i := (assoc [(0, [0, 1]), (1, [0, 3, 4])] i).getD []
  boxes i := (assoc [(0, []), (1, [3, 4])] i).getD []
  tk i := (assoc [] i).getD []
  n := 12
  labelR l := (assoc [] l).getD 0
  loops := assoc []
  labels := assoc []
  joins := assoc []
  xl i e := match e with
    | .nxt => assoc [] i
    | .ret => assoc [] i
    | .exit j => (assoc [] i).bind fun l => assoc l j
    | .goto j => (assoc [] i).bind fun l => assoc l j
noncomputable def cadastreref2_Null_L : List Code := selI [] (loopsOf cadastreref2_Null_code)
noncomputable def cadastreref2_Null_J : List Code := selI [] (joinsOf cadastreref2_Null_code)
noncomputable def cadastreref2_Null_S : List Code := scopesOf cadastreref2_Null_code
theorem cadastreref2_Null_cok {ρ : Type} (k : Nat) : COK (cadastreref2_Null_cfg (ρ := ρ) k) (cadastreref2_Null_G k) cadastreref2_Null_code :=
  cok_of (tl := []) (tj := []) (tb := []) rfl rfl rfl (nil_all (by kernel_rfl)) (nil_all (by kernel_rfl)) (fun p hp => by cases hp)
noncomputable def cadastreref2_Null_enc (r : S29) : AV UU := .pv (.typ (.s29 r))
noncomputable def cadastreref2_Null_dec (v : AV UU) (_ : List (List (AV UU))) : Option S29 :=
as_s29 v fun r0 =>
some r0
theorem cadastreref2_Null_dec_enc (v : AV UU) (b : List (List (AV UU))) (r : S29) (h : cadastreref2_Null_dec v b = some r) : v = cadastreref2_Null_enc r := by
  unfold cadastreref2_Null_dec at h
  replace h := as_s29_inv h; obtain ⟨r0, rfl, h⟩ := h
  cases h
  rfl
theorem cadastreref2_Null_eq (k : Nat) (op0 : Int) (v1 : S29) : bodyK UX (cadastreref2_Null_cfg k) (cadastreref2_Null_G k) Tryd.f35 [.pv (.int .i64 op0), .pv (.typ (.s29 v1))] [] cadastreref2_Null_dec = cadastreref2_Null k op0 v1 := by kernel_rfl
theorem cadastreref2_Null_con (k : Nat) (op0 : Int) (v1 : S29) (r : S29) (h : cadastreref2_Null k op0 v1 = some r) : Con (X := UX) Tryd.prog 35 [.pv (.int .i64 op0), .pv (.typ (.s29 v1))] [] (cadastreref2_Null_enc r) [] :=
  con_of_body xok tok Tryd.func35 cadastreref2_Null_body (cadastreref2_Null_gok k) rfl (cadastreref2_Null_cok k) (of_decide_eq_true (by kernel_rfl)) cadastreref2_Null_dec_enc ((cadastreref2_Null_eq k op0 v1).trans h)
noncomputable def cadastreref2_Null_an {ρ : Type} (k : Nat) : An UX ρ := fun args bx K =>
popA args fun v1 a2 =>
asI .i64 v1 fun op0 =>
popA a2 fun v3 a4 =>
as_s29 v3 fun v1 =>
popN a4 <|
popN bx <|
(cadastreref2_Null k op0 v1).bind fun r => K (cadastreref2_Null_enc r) []
theorem cadastreref2_Null_ok {ρ : Type} (k : Nat) : AnsOK Tryd.prog 35 (cadastreref2_Null_an (ρ := ρ) k) := by
  intro args bx K r h
  unfold cadastreref2_Null_an at h
  replace h := popA_inv h; obtain ⟨v1, a2, rfl, h⟩ := h
  replace h := asI_inv h; obtain ⟨op0, rfl, h⟩ := h
  replace h := popA_inv h; obtain ⟨v3, a4, rfl, h⟩ := h
  replace h := as_s29_inv h; obtain ⟨v1, rfl, h⟩ := h
  replace h := popN_inv h; obtain ⟨rfl, h⟩ := h
  replace h := popN_inv h; obtain ⟨rfl, h⟩ := h
  replace h := bind_inv h
  obtain ⟨x, hx, h⟩ := h
  exact ⟨there_of Tryd.func35 (by kernel_rfl) cadastreref2_Null_body, _, _, h, cadastreref2_Null_con k op0 v1 x hx⟩

/-! cadastre/cadastreref23.One -/
noncomputable def cadastreref23_One_code : Code := match Tryd.f19.body with | some c => c | none => .skip
theorem cadastreref23_One_body : Tryd.f19.body = some cadastreref23_One_code := by kernel_rfl
noncomputable def cadastreref23_One_G {ρ : Type} (k : Nat) : Ans UX ρ := gk 31 (cadastreref4_Neg_an k) (gk 32 (cadastreref2_Not_an k) (gk 33 (cadastreref4_Length_an k) (gk 34 (cadastreref4_Typeof_an k) (gk 35 (cadastreref2_Null_an k) (gnil)))))
theorem cadastreref23_One_gok {ρ : Type} (k : Nat) : GOK Tryd.prog (cadastreref23_One_G (ρ := ρ) k) := gok_cons (cadastreref4_Neg_ok k) (gok_cons (cadastreref2_Not_ok k) (gok_cons (cadastreref4_Length_ok k) (gok_cons (cadastreref4_Typeof_ok k) (gok_cons (cadastreref2_Null_ok k) (gok_nil)))))
noncomputable def cadastreref23_One_cfg {ρ : Type} (k : Nat) : Cfg UX ρ where
  live i := (assoc [(0, [0, 1]), (1, [0, 3, 4]), (2, [0, 3, 4, 6]), (3, [3, 4]), (4, [0, 3, 4, 6]), (5, [3, 4]), (6, [0, 3, 4, 6]), (7, [3, 4]), (8, [0, 3, 4, 6]), (9, [3, 4]), (10, [0, 3, 4])] i).getD []
  boxes i := (assoc [(0, []), (1, [3, 4]), (2, [3, 4]), (3, [3, 4]), (4, [3, 4]), (5, [3, 4]), (6, [3, 4]), (7, [3, 4]), (8, [3, 4]), (9, [3, 4]), (10, [3, 4])] i).getD []
  tk i := (assoc [] i).getD []
  n := 30
  labelR l := (assoc [] l).getD 0
  loops := assoc []
  labels := assoc []
  joins := assoc []
  xl i e := match e with
    | .nxt => assoc [] i
    | .ret => assoc [] i
    | .exit j => (assoc [] i).bind fun l => assoc l j
    | .goto j => (assoc [] i).bind fun l => assoc l j
noncomputable def cadastreref23_One_L : List Code := selI [] (loopsOf cadastreref23_One_code)
noncomputable def cadastreref23_One_J : List Code := selI [] (joinsOf cadastreref23_One_code)
noncomputable def cadastreref23_One_S : List Code := scopesOf cadastreref23_One_code
theorem cadastreref23_One_cok {ρ : Type} (k : Nat) : COK (cadastreref23_One_cfg (ρ := ρ) k) (cadastreref23_One_G k) cadastreref23_One_code :=
  cok_of (tl := []) (tj := []) (tb := []) rfl rfl rfl (nil_all (by kernel_rfl)) (nil_all (by kernel_rfl)) (fun p hp => by cases hp)
noncomputable def cadastreref23_One_enc (r : S29 × Int) : AV UU := .pv (.tup [.typ (.s29 r.1), .int .i64 r.2])
noncomputable def cadastreref23_One_dec (v : AV UU) (_ : List (List (AV UU))) : Option (S29 × Int) :=
asT v fun q1 =>
popA q1 fun p2 q3 =>
as_s29 (.pv p2) fun r0 =>
popA q3 fun p4 q5 =>
asI .i64 (.pv p4) fun r1 =>
popN q5 <|
some (r0, r1)
theorem cadastreref23_One_dec_enc (v : AV UU) (b : List (List (AV UU))) (r : S29 × Int) (h : cadastreref23_One_dec v b = some r) : v = cadastreref23_One_enc r := by
  unfold cadastreref23_One_dec at h
  replace h := asT_inv h; obtain ⟨q1, rfl, h⟩ := h
  replace h := popA_inv h; obtain ⟨p2, q3, rfl, h⟩ := h
  replace h := as_s29_inv h; obtain ⟨r0, e, h⟩ := h; cases e
  replace h := popA_inv h; obtain ⟨p4, q5, rfl, h⟩ := h
  replace h := asI_inv h; obtain ⟨r1, e, h⟩ := h; cases e
  replace h := popN_inv h; obtain ⟨rfl, h⟩ := h
  cases h
  rfl
theorem cadastreref23_One_eq (k : Nat) (op0 : Int) (v1 : S29) : bodyK UX (cadastreref23_One_cfg k) (cadastreref23_One_G k) Tryd.f19 [.pv (.int .i64 op0), .pv (.typ (.s29 v1))] [] cadastreref23_One_dec = cadastreref23_One k op0 v1 := by kernel_rfl
theorem cadastreref23_One_con (k : Nat) (op0 : Int) (v1 : S29) (r : S29 × Int) (h : cadastreref23_One k op0 v1 = some r) : Con (X := UX) Tryd.prog 19 [.pv (.int .i64 op0), .pv (.typ (.s29 v1))] [] (cadastreref23_One_enc r) [] :=
  con_of_body xok tok Tryd.func19 cadastreref23_One_body (cadastreref23_One_gok k) rfl (cadastreref23_One_cok k) (of_decide_eq_true (by kernel_rfl)) cadastreref23_One_dec_enc ((cadastreref23_One_eq k op0 v1).trans h)
noncomputable def cadastreref23_One_an {ρ : Type} (k : Nat) : An UX ρ := fun args bx K =>
popA args fun v1 a2 =>
asI .i64 v1 fun op0 =>
popA a2 fun v3 a4 =>
as_s29 v3 fun v1 =>
popN a4 <|
popN bx <|
(cadastreref23_One k op0 v1).bind fun r => K (cadastreref23_One_enc r) []
theorem cadastreref23_One_ok {ρ : Type} (k : Nat) : AnsOK Tryd.prog 19 (cadastreref23_One_an (ρ := ρ) k) := by
  intro args bx K r h
  unfold cadastreref23_One_an at h
  replace h := popA_inv h; obtain ⟨v1, a2, rfl, h⟩ := h
  replace h := asI_inv h; obtain ⟨op0, rfl, h⟩ := h
  replace h := popA_inv h; obtain ⟨v3, a4, rfl, h⟩ := h
  replace h := as_s29_inv h; obtain ⟨v1, rfl, h⟩ := h
  replace h := popN_inv h; obtain ⟨rfl, h⟩ := h
  replace h := popN_inv h; obtain ⟨rfl, h⟩ := h
  replace h := bind_inv h
  obtain ⟨x, hx, h⟩ := h
  exact ⟨there_of Tryd.func19 (by kernel_rfl) cadastreref23_One_body, _, _, h, cadastreref23_One_con k op0 v1 x hx⟩

/-! cadastre/cadastreref4.Concat -/
noncomputable def cadastreref4_Concat_code : Code := match Tryd.f36.body with | some c => c | none => .skip
theorem cadastreref4_Concat_body : Tryd.f36.body = some cadastreref4_Concat_code := by kernel_rfl
noncomputable def cadastreref4_Concat_G {ρ : Type} (k : Nat) : Ans UX ρ := gk 48 (cadastreref4_Text_an k) (gk 49 (cadastreref4_text_an k) (gnil))
theorem cadastreref4_Concat_gok {ρ : Type} (k : Nat) : GOK Tryd.prog (cadastreref4_Concat_G (ρ := ρ) k) := gok_cons (cadastreref4_Text_ok k) (gok_cons (cadastreref4_text_ok k) (gok_nil))
noncomputable def cadastreref4_Concat_j5_s {ρ : Type} (k : Nat) : Run UX ρ := fun s K =>
popS 2 s.env fun v1 e2 =>
asP 2 0 v1 <|
popS 3 e2 fun v3 e4 =>
asP 3 0 v3 <|
popS 4 e4 fun v5 e6 =>
asP 4 0 v5 <|
popN e6 <|
popB 2 s.hp fun c7 e8 =>
popA c7 fun v9 c10 =>
asI .i64 v9 fun z11 =>
popA c10 fun v12 c13 =>
asI .i64 v12 fun z14 =>
popA c13 fun v15 c16 =>
asS v15 fun z17 =>
popN c16 <|
popB 3 e8 fun c18 e19 =>
popA c18 fun v20 c21 =>
asI .i64 v20 fun z22 =>
popA c21 fun v23 c24 =>
asI .i64 v23 fun z25 =>
popA c24 fun v26 c27 =>
asS v26 fun z28 =>
popN c27 <|
popB 4 e19 fun c29 e30 =>
popA c29 fun v31 c32 =>
asI .i64 v31 fun z33 =>
popA c32 fun v34 c35 =>
asI .i64 v34 fun z36 =>
popA c35 fun v37 c38 =>
asS v37 fun z39 =>
popN c38 <|
popN e30 <|
cadastreref4_Concat_j5 k (fun t5 t4 => K .ret ⟨[(4, .ptr 4 0), (5, .pv (.int .i64 t5))], [(4, [.pv (.int .i64 t4.f0), .pv (.int .i64 t4.f1), .pv (.str t4.f2)])]⟩) (⟨z11, z14, z17⟩ : S29) (⟨z22, z25, z28⟩ : S29) (⟨z33, z36, z39⟩ : S29)
noncomputable def cadastreref4_Concat_j3_s {ρ : Type} (k : Nat) : Run UX ρ := fun s K =>
popS 2 s.env fun v1 e2 =>
asP 2 0 v1 <|
popS 3 e2 fun v3 e4 =>
asP 3 0 v3 <|
popS 4 e4 fun v5 e6 =>
asP 4 0 v5 <|
popN e6 <|
popB 2 s.hp fun c7 e8 =>
popA c7 fun v9 c10 =>
asI .i64 v9 fun z11 =>
popA c10 fun v12 c13 =>
asI .i64 v12 fun z14 =>
popA c13 fun v15 c16 =>
asS v15 fun z17 =>
popN c16 <|
popB 3 e8 fun c18 e19 =>
popA c18 fun v20 c21 =>
asI .i64 v20 fun z22 =>
popA c21 fun v23 c24 =>
asI .i64 v23 fun z25 =>
popA c24 fun v26 c27 =>
asS v26 fun z28 =>
popN c27 <|
popB 4 e19 fun c29 e30 =>
popA c29 fun v31 c32 =>
asI .i64 v31 fun z33 =>
popA c32 fun v34 c35 =>
asI .i64 v34 fun z36 =>
popA c35 fun v37 c38 =>
asS v37 fun z39 =>
popN c38 <|
popN e30 <|
cadastreref4_Concat_j3 k (fun t5 t4 => K .ret ⟨[(4, .ptr 4 0), (5, .pv (.int .i64 t5))], [(4, [.pv (.int .i64 t4.f0), .pv (.int .i64 t4.f1), .pv (.str t4.f2)])]⟩) (⟨z11, z14, z17⟩ : S29) (⟨z22, z25, z28⟩ : S29) (⟨z33, z36, z39⟩ : S29)
noncomputable def cadastreref4_Concat_cfg {ρ : Type} (k : Nat) : Cfg UX ρ where
  live i := (assoc [(0, [0, 1]), (1, [2, 3, 4]), (2, [4]), (3, [2, 3, 4]), (4, [4]), (5, [2, 3, 4]), (6, [4, 6]), (7, [4]), (8, [4, 6])] i).getD []
  boxes i := (assoc [(0, []), (1, [2, 3, 4]), (2, [4]), (3, [2, 3, 4]), (4, [4]), (5, [2, 3, 4]), (6, [4]), (7, [4]), (8, [4])] i).getD []
  tk i := (assoc [] i).getD []
  n := 38
  labelR l := (assoc [] l).getD 0
  loops := assoc []
  labels := assoc []
  joins := assoc [(5, cadastreref4_Concat_j5_s k), (3, cadastreref4_Concat_j3_s k)]
  xl i e := match e with
    | .nxt => assoc [] i
    | .ret => assoc [(5, ([4, 5], [4])), (3, ([4, 5], [4]))] i
    | .exit j => (assoc [] i).bind fun l => assoc l j
    | .goto j => (assoc [] i).bind fun l => assoc l j
noncomputable def cadastreref4_Concat_L : List Code := selI [] (loopsOf cadastreref4_Concat_code)
noncomputable def cadastreref4_Concat_J : List Code := selI [5, 3] (joinsOf cadastreref4_Concat_code)
noncomputable def cadastreref4_Concat_S : List Code := scopesOf cadastreref4_Concat_code
theorem cadastreref4_Concat_j3_eq0 {ρ : Type} (k : Nat) (K : Ex → St UU → Option ρ) (a2 : S29) (b3 : S29) (t4 : S29) : exec UX (cadastreref4_Concat_cfg k) (cadastreref4_Concat_G k) (cadastreref4_Concat_J.getD 0 .skip) ⟨[(2, .ptr 2 0), (3, .ptr 3 0), (4, .ptr 4 0)], [(2, [.pv (.int .i64 a2.f0), .pv (.int .i64 a2.f1), .pv (.str a2.f2)]), (3, [.pv (.int .i64 b3.f0), .pv (.int .i64 b3.f1), .pv (.str b3.f2)]), (4, [.pv (.int .i64 t4.f0), .pv (.int .i64 t4.f1), .pv (.str t4.f2)])]⟩ (nrmK UX (cadastreref4_Concat_cfg k) 3 K) = cadastreref4_Concat_j3 k (fun t5 t4 => K .ret ⟨[(4, .ptr 4 0), (5, .pv (.int .i64 t5))], [(4, [.pv (.int .i64 t4.f0), .pv (.int .i64 t4.f1), .pv (.str t4.f2)])]⟩) a2 b3 t4 := by kernel_rfl
theorem cadastreref4_Concat_j3_ok0 {ρ : Type} (k : Nat) : JoinOK UX (cadastreref4_Concat_cfg (ρ := ρ) k) (cadastreref4_Concat_G k) (cadastreref4_Concat_J.getD 0 .skip) 3 (cadastreref4_Concat_j3_s k) := by
  intro s K r h
  obtain ⟨env, hp⟩ := s
  unfold cadastreref4_Concat_j3_s at h
  replace h := popS_inv h; obtain ⟨v1, e2, rfl, h⟩ := h
  replace h := asP_inv h; obtain ⟨rfl, h⟩ := h
  replace h := popS_inv h; obtain ⟨v3, e4, rfl, h⟩ := h
  replace h := asP_inv h; obtain ⟨rfl, h⟩ := h
  replace h := popS_inv h; obtain ⟨v5, e6, rfl, h⟩ := h
  replace h := asP_inv h; obtain ⟨rfl, h⟩ := h
  replace h := popN_inv h; obtain ⟨rfl, h⟩ := h
  replace h := popB_inv h; obtain ⟨c7, e8, rfl, h⟩ := h
  replace h := popA_inv h; obtain ⟨v9, c10, rfl, h⟩ := h
  replace h := asI_inv h; obtain ⟨z11, rfl, h⟩ := h
  replace h := popA_inv h; obtain ⟨v12, c13, rfl, h⟩ := h
  replace h := asI_inv h; obtain ⟨z14, rfl, h⟩ := h
  replace h := popA_inv h; obtain ⟨v15, c16, rfl, h⟩ := h
  replace h := asS_inv h; obtain ⟨z17, rfl, h⟩ := h
  replace h := popN_inv h; obtain ⟨rfl, h⟩ := h
  replace h := popB_inv h; obtain ⟨c18, e19, rfl, h⟩ := h
  replace h := popA_inv h; obtain ⟨v20, c21, rfl, h⟩ := h
  replace h := asI_inv h; obtain ⟨z22, rfl, h⟩ := h
  replace h := popA_inv h; obtain ⟨v23, c24, rfl, h⟩ := h
  replace h := asI_inv h; obtain ⟨z25, rfl, h⟩ := h
  replace h := popA_inv h; obtain ⟨v26, c27, rfl, h⟩ := h
  replace h := asS_inv h; obtain ⟨z28, rfl, h⟩ := h
  replace h := popN_inv h; obtain ⟨rfl, h⟩ := h
  replace h := popB_inv h; obtain ⟨c29, e30, rfl, h⟩ := h
  replace h := popA_inv h; obtain ⟨v31, c32, rfl, h⟩ := h
  replace h := asI_inv h; obtain ⟨z33, rfl, h⟩ := h
  replace h := popA_inv h; obtain ⟨v34, c35, rfl, h⟩ := h
  replace h := asI_inv h; obtain ⟨z36, rfl, h⟩ := h
  replace h := popA_inv h; obtain ⟨v37, c38, rfl, h⟩ := h
  replace h := asS_inv h; obtain ⟨z39, rfl, h⟩ := h
  replace h := popN_inv h; obtain ⟨rfl, h⟩ := h
  replace h := popN_inv h; obtain ⟨rfl, h⟩ := h
  exact (cadastreref4_Concat_j3_eq0 k K (⟨z11, z14, z17⟩ : S29) (⟨z22, z25, z28⟩ : S29) (⟨z33, z36, z39⟩ : S29)).trans h
theorem cadastreref4_Concat_j5_eq1 {ρ : Type} (k : Nat) (K : Ex → St UU → Option ρ) (a2 : S29) (b3 : S29) (t4 : S29) : exec UX (cadastreref4_Concat_cfg k) (cadastreref4_Concat_G k) (cadastreref4_Concat_J.getD 1 .skip) ⟨[(2, .ptr 2 0), (3, .ptr 3 0), (4, .ptr 4 0)], [(2, [.pv (.int .i64 a2.f0), .pv (.int .i64 a2.f1), .pv (.str a2.f2)]), (3, [.pv (.int .i64 b3.f0), .pv (.int .i64 b3.f1), .pv (.str b3.f2)]), (4, [.pv (.int .i64 t4.f0), .pv (.int .i64 t4.f1), .pv (.str t4.f2)])]⟩ (nrmK UX (cadastreref4_Concat_cfg k) 5 K) = cadastreref4_Concat_j5 k (fun t5 t4 => K .ret ⟨[(4, .ptr 4 0), (5, .pv (.int .i64 t5))], [(4, [.pv (.int .i64 t4.f0), .pv (.int .i64 t4.f1), .pv (.str t4.f2)])]⟩) a2 b3 t4 := by kernel_rfl
theorem cadastreref4_Concat_j5_ok1 {ρ : Type} (k : Nat) : JoinOK UX (cadastreref4_Concat_cfg (ρ := ρ) k) (cadastreref4_Concat_G k) (cadastreref4_Concat_J.getD 1 .skip) 5 (cadastreref4_Concat_j5_s k) := by
  intro s K r h
  obtain ⟨env, hp⟩ := s
  unfold cadastreref4_Concat_j5_s at h
  replace h := popS_inv h; obtain ⟨v1, e2, rfl, h⟩ := h
  replace h := asP_inv h; obtain ⟨rfl, h⟩ := h
  replace h := popS_inv h; obtain ⟨v3, e4, rfl, h⟩ := h
  replace h := asP_inv h; obtain ⟨rfl, h⟩ := h
  replace h := popS_inv h; obtain ⟨v5, e6, rfl, h⟩ := h
  replace h := asP_inv h; obtain ⟨rfl, h⟩ := h
  replace h := popN_inv h; obtain ⟨rfl, h⟩ := h
  replace h := popB_inv h; obtain ⟨c7, e8, rfl, h⟩ := h
  replace h := popA_inv h; obtain ⟨v9, c10, rfl, h⟩ := h
  replace h := asI_inv h; obtain ⟨z11, rfl, h⟩ := h
  replace h := popA_inv h; obtain ⟨v12, c13, rfl, h⟩ := h
  replace h := asI_inv h; obtain ⟨z14, rfl, h⟩ := h
  replace h := popA_inv h; obtain ⟨v15, c16, rfl, h⟩ := h
  replace h := asS_inv h; obtain ⟨z17, rfl, h⟩ := h
  replace h := popN_inv h; obtain ⟨rfl, h⟩ := h
  replace h := popB_inv h; obtain ⟨c18, e19, rfl, h⟩ := h
  replace h := popA_inv h; obtain ⟨v20, c21, rfl, h⟩ := h
  replace h := asI_inv h; obtain ⟨z22, rfl, h⟩ := h
  replace h := popA_inv h; obtain ⟨v23, c24, rfl, h⟩ := h
  replace h := asI_inv h; obtain ⟨z25, rfl, h⟩ := h
  replace h := popA_inv h; obtain ⟨v26, c27, rfl, h⟩ := h
  replace h := asS_inv h; obtain ⟨z28, rfl, h⟩ := h
  replace h := popN_inv h; obtain ⟨rfl, h⟩ := h
  replace h := popB_inv h; obtain ⟨c29, e30, rfl, h⟩ := h
  replace h := popA_inv h; obtain ⟨v31, c32, rfl, h⟩ := h
  replace h := asI_inv h; obtain ⟨z33, rfl, h⟩ := h
  replace h := popA_inv h; obtain ⟨v34, c35, rfl, h⟩ := h
  replace h := asI_inv h; obtain ⟨z36, rfl, h⟩ := h
  replace h := popA_inv h; obtain ⟨v37, c38, rfl, h⟩ := h
  replace h := asS_inv h; obtain ⟨z39, rfl, h⟩ := h
  replace h := popN_inv h; obtain ⟨rfl, h⟩ := h
  replace h := popN_inv h; obtain ⟨rfl, h⟩ := h
  exact (cadastreref4_Concat_j5_eq1 k K (⟨z11, z14, z17⟩ : S29) (⟨z22, z25, z28⟩ : S29) (⟨z33, z36, z39⟩ : S29)).trans h
theorem cadastreref4_Concat_cok {ρ : Type} (k : Nat) : COK (cadastreref4_Concat_cfg (ρ := ρ) k) (cadastreref4_Concat_G k) cadastreref4_Concat_code :=
  cok_of (tl := []) (tj := [(5, cadastreref4_Concat_j5_s k), (3, cadastreref4_Concat_j3_s k)]) (tb := []) rfl rfl rfl (nil_all (by kernel_rfl)) (all_nth 2 (by kernel_rfl) ⟨join_case (by kernel_rfl) rfl (cadastreref4_Concat_j5_ok1 k), join_case (by kernel_rfl) rfl (cadastreref4_Concat_j3_ok0 k), trivial⟩) (fun p hp => by cases hp)
noncomputable def cadastreref4_Concat_enc (r : S29 × Int) : AV UU := .pv (.tup [.typ (.s29 r.1), .int .i64 r.2])
noncomputable def cadastreref4_Concat_dec (v : AV UU) (_ : List (List (AV UU))) : Option (S29 × Int) :=
asT v fun q1 =>
popA q1 fun p2 q3 =>
as_s29 (.pv p2) fun r0 =>
popA q3 fun p4 q5 =>
asI .i64 (.pv p4) fun r1 =>
popN q5 <|
some (r0, r1)
theorem cadastreref4_Concat_dec_enc (v : AV UU) (b : List (List (AV UU))) (r : S29 × Int) (h : cadastreref4_Concat_dec v b = some r) : v = cadastreref4_Concat_enc r := by
  unfold cadastreref4_Concat_dec at h
  replace h := asT_inv h; obtain ⟨q1, rfl, h⟩ := h
  replace h := popA_inv h; obtain ⟨p2, q3, rfl, h⟩ := h
  replace h := as_s29_inv h; obtain ⟨r0, e, h⟩ := h; cases e
  replace h := popA_inv h; obtain ⟨p4, q5, rfl, h⟩ := h
  replace h := asI_inv h; obtain ⟨r1, e, h⟩ := h; cases e
  replace h := popN_inv h; obtain ⟨rfl, h⟩ := h
  cases h
  rfl
theorem cadastreref4_Concat_eq (k : Nat) (a0 : S29) (b1 : S29) : bodyK UX (cadastreref4_Concat_cfg k) (cadastreref4_Concat_G k) Tryd.f36 [.pv (.typ (.s29 a0)), .pv (.typ (.s29 b1))] [] cadastreref4_Concat_dec = cadastreref4_Concat k a0 b1 := by kernel_rfl
theorem cadastreref4_Concat_con (k : Nat) (a0 : S29) (b1 : S29) (r : S29 × Int) (h : cadastreref4_Concat k a0 b1 = some r) : Con (X := UX) Tryd.prog 36 [.pv (.typ (.s29 a0)), .pv (.typ (.s29 b1))] [] (cadastreref4_Concat_enc r) [] :=
  con_of_body xok tok Tryd.func36 cadastreref4_Concat_body (cadastreref4_Concat_gok k) rfl (cadastreref4_Concat_cok k) (of_decide_eq_true (by kernel_rfl)) cadastreref4_Concat_dec_enc ((cadastreref4_Concat_eq k a0 b1).trans h)
noncomputable def cadastreref4_Concat_an {ρ : Type} (k : Nat) : An UX ρ := fun args bx K =>
popA args fun v1 a2 =>
as_s29 v1 fun a0 =>
popA a2 fun v3 a4 =>
as_s29 v3 fun b1 =>
popN a4 <|
popN bx <|
(cadastreref4_Concat k a0 b1).bind fun r => K (cadastreref4_Concat_enc r) []
theorem cadastreref4_Concat_ok {ρ : Type} (k : Nat) : AnsOK Tryd.prog 36 (cadastreref4_Concat_an (ρ := ρ) k) := by
  intro args bx K r h
  unfold cadastreref4_Concat_an at h
  replace h := popA_inv h; obtain ⟨v1, a2, rfl, h⟩ := h
  replace h := as_s29_inv h; obtain ⟨a0, rfl, h⟩ := h
  replace h := popA_inv h; obtain ⟨v3, a4, rfl, h⟩ := h
  replace h := as_s29_inv h; obtain ⟨b1, rfl, h⟩ := h
  replace h := popN_inv h; obtain ⟨rfl, h⟩ := h
  replace h := popN_inv h; obtain ⟨rfl, h⟩ := h
  replace h := bind_inv h
  obtain ⟨x, hx, h⟩ := h
  exact ⟨there_of Tryd.func36 (by kernel_rfl) cadastreref4_Concat_body, _, _, h, cadastreref4_Concat_con k a0 b1 x hx⟩

/-! cadastre/cadastreref0.Cmp -/
noncomputable def cadastreref0_Cmp_code : Code := match Tryd.f64.body with | some c => c | none => .skip
theorem cadastreref0_Cmp_body : Tryd.f64.body = some cadastreref0_Cmp_code := by kernel_rfl
noncomputable def cadastreref0_Cmp_G {ρ : Type} (k : Nat) : Ans UX ρ := gnil
theorem cadastreref0_Cmp_gok {ρ : Type} (k : Nat) : GOK Tryd.prog (cadastreref0_Cmp_G (ρ := ρ) k) := gok_nil
noncomputable def cadastreref0_Cmp_cfg {ρ : Type} (k : Nat) : Cfg UX ρ where
  live i := (assoc [(0, [0, 1]), (1, [0, 1]), (2, []), (3, [0, 1]), (4, []), (5, [])] i).getD []
  boxes i := (assoc [(0, []), (1, []), (2, []), (3, []), (4, []), (5, [])] i).getD []
  tk i := (assoc [] i).getD []
  n := 13
  labelR l := (assoc [] l).getD 0
  loops := assoc []
  labels := assoc []
  joins := assoc []
  xl i e := match e with
    | .nxt => assoc [] i
    | .ret => assoc [] i
    | .exit j => (assoc [] i).bind fun l => assoc l j
    | .goto j => (assoc [] i).bind fun l => assoc l j
noncomputable def cadastreref0_Cmp_L : List Code := selI [] (loopsOf cadastreref0_Cmp_code)
noncomputable def cadastreref0_Cmp_J : List Code := selI [] (joinsOf cadastreref0_Cmp_code)
noncomputable def cadastreref0_Cmp_S : List Code := scopesOf cadastreref0_Cmp_code
theorem cadastreref0_Cmp_cok {ρ : Type} (k : Nat) : COK (cadastreref0_Cmp_cfg (ρ := ρ) k) (cadastreref0_Cmp_G k) cadastreref0_Cmp_code :=
  cok_of (tl := []) (tj := []) (tb := []) rfl rfl rfl (nil_all (by kernel_rfl)) (nil_all (by kernel_rfl)) (fun p hp => by cases hp)
noncomputable def cadastreref0_Cmp_enc (r : Int) : AV UU := .pv (.int .i64 r)
noncomputable def cadastreref0_Cmp_dec (v : AV UU) (_ : List (List (AV UU))) : Option Int :=
asI .i64 v fun r0 =>
some r0
theorem cadastreref0_Cmp_dec_enc (v : AV UU) (b : List (List (AV UU))) (r : Int) (h : cadastreref0_Cmp_dec v b = some r) : v = cadastreref0_Cmp_enc r := by
  unfold cadastreref0_Cmp_dec at h
  replace h := asI_inv h; obtain ⟨r0, rfl, h⟩ := h
  cases h
  rfl
theorem cadastreref0_Cmp_eq (k : Nat) (a0 : ByteArray) (b1 : ByteArray) : bodyK UX (cadastreref0_Cmp_cfg k) (cadastreref0_Cmp_G k) Tryd.f64 [.pv (.str a0), .pv (.str b1)] [] cadastreref0_Cmp_dec = cadastreref0_Cmp k a0 b1 := by kernel_rfl
theorem cadastreref0_Cmp_con (k : Nat) (a0 : ByteArray) (b1 : ByteArray) (r : Int) (h : cadastreref0_Cmp k a0 b1 = some r) : Con (X := UX) Tryd.prog 64 [.pv (.str a0), .pv (.str b1)] [] (cadastreref0_Cmp_enc r) [] :=
  con_of_body xok tok Tryd.func64 cadastreref0_Cmp_body (cadastreref0_Cmp_gok k) rfl (cadastreref0_Cmp_cok k) (of_decide_eq_true (by kernel_rfl)) cadastreref0_Cmp_dec_enc ((cadastreref0_Cmp_eq k a0 b1).trans h)
noncomputable def cadastreref0_Cmp_an {ρ : Type} (k : Nat) : An UX ρ := fun args bx K =>
popA args fun v1 a2 =>
asS v1 fun a0 =>
popA a2 fun v3 a4 =>
asS v3 fun b1 =>
popN a4 <|
popN bx <|
(cadastreref0_Cmp k a0 b1).bind fun r => K (cadastreref0_Cmp_enc r) []
theorem cadastreref0_Cmp_ok {ρ : Type} (k : Nat) : AnsOK Tryd.prog 64 (cadastreref0_Cmp_an (ρ := ρ) k) := by
  intro args bx K r h
  unfold cadastreref0_Cmp_an at h
  replace h := popA_inv h; obtain ⟨v1, a2, rfl, h⟩ := h
  replace h := asS_inv h; obtain ⟨a0, rfl, h⟩ := h
  replace h := popA_inv h; obtain ⟨v3, a4, rfl, h⟩ := h
  replace h := asS_inv h; obtain ⟨b1, rfl, h⟩ := h
  replace h := popN_inv h; obtain ⟨rfl, h⟩ := h
  replace h := popN_inv h; obtain ⟨rfl, h⟩ := h
  replace h := bind_inv h
  obtain ⟨x, hx, h⟩ := h
  exact ⟨there_of Tryd.func64 (by kernel_rfl) cadastreref0_Cmp_body, _, _, h, cadastreref0_Cmp_con k a0 b1 x hx⟩

/-! cadastre/cadastreref2.Cmp -/
noncomputable def cadastreref2_Cmp_code : Code := match Tryd.f52.body with | some c => c | none => .skip
theorem cadastreref2_Cmp_body : Tryd.f52.body = some cadastreref2_Cmp_code := by kernel_rfl
noncomputable def cadastreref2_Cmp_G {ρ : Type} (k : Nat) : Ans UX ρ := gk 64 (cadastreref0_Cmp_an k) (gnil)
theorem cadastreref2_Cmp_gok {ρ : Type} (k : Nat) : GOK Tryd.prog (cadastreref2_Cmp_G (ρ := ρ) k) := gok_cons (cadastreref0_Cmp_ok k) (gok_nil)
noncomputable def cadastreref2_Cmp_j3_s {ρ : Type} (k : Nat) : Run UX ρ := fun s K =>
popS 2 s.env fun v1 e2 =>
asP 2 0 v1 <|
popS 3 e2 fun v3 e4 =>
asP 3 0 v3 <|
popN e4 <|
popB 2 s.hp fun c5 e6 =>
popA c5 fun v7 c8 =>
asI .i64 v7 fun z9 =>
popA c8 fun v10 c11 =>
asI .i64 v10 fun z12 =>
popA c11 fun v13 c14 =>
asS v13 fun z15 =>
popN c14 <|
popB 3 e6 fun c16 e17 =>
popA c16 fun v18 c19 =>
asI .i64 v18 fun z20 =>
popA c19 fun v21 c22 =>
asI .i64 v21 fun z23 =>
popA c22 fun v24 c25 =>
asS v24 fun z26 =>
popN c25 <|
popN e17 <|
cadastreref2_Cmp_j3 k (fun t4 => K .ret ⟨[(4, .pv (.int .i64 t4))], []⟩) (fun a2 b3 => K .nxt ⟨[(2, .ptr 2 0), (3, .ptr 3 0)], [(2, [.pv (.int .i64 a2.f0), .pv (.int .i64 a2.f1), .pv (.str a2.f2)]), (3, [.pv (.int .i64 b3.f0), .pv (.int .i64 b3.f1), .pv (.str b3.f2)])]⟩) (⟨z9, z12, z15⟩ : S29) (⟨z20, z23, z26⟩ : S29)
noncomputable def cadastreref2_Cmp_cfg {ρ : Type} (k : Nat) : Cfg UX ρ where
  live i := (assoc [(0, [0, 1]), (1, [2, 3]), (2, []), (3, [2, 3]), (4, []), (5, [2, 3])] i).getD []
  boxes i := (assoc [(0, []), (1, [2, 3]), (2, []), (3, [2, 3]), (4, []), (5, [2, 3])] i).getD []
  tk i := (assoc [] i).getD []
  n := 43
  labelR l := (assoc [] l).getD 0
  loops := assoc []
  labels := assoc []
  joins := assoc [(3, cadastreref2_Cmp_j3_s k)]
  xl i e := match e with
    | .nxt => assoc [(3, ([2, 3], [2, 3]))] i
    | .ret => assoc [(3, ([4], []))] i
    | .exit j => (assoc [] i).bind fun l => assoc l j
    | .goto j => (assoc [] i).bind fun l => assoc l j
noncomputable def cadastreref2_Cmp_L : List Code := selI [] (loopsOf cadastreref2_Cmp_code)
noncomputable def cadastreref2_Cmp_J : List Code := selI [3] (joinsOf cadastreref2_Cmp_code)
noncomputable def cadastreref2_Cmp_S : List Code := scopesOf cadastreref2_Cmp_code
theorem cadastreref2_Cmp_j3_eq0 {ρ : Type} (k : Nat) (K : Ex → St UU → Option ρ) (a2 : S29) (b3 : S29) : exec UX (cadastreref2_Cmp_cfg k) (cadastreref2_Cmp_G k) (cadastreref2_Cmp_J.getD 0 .skip) ⟨[(2, .ptr 2 0), (3, .ptr 3 0)], [(2, [.pv (.int .i64 a2.f0), .pv (.int .i64 a2.f1), .pv (.str a2.f2)]), (3, [.pv (.int .i64 b3.f0), .pv (.int .i64 b3.f1), .pv (.str b3.f2)])]⟩ (nrmK UX (cadastreref2_Cmp_cfg k) 3 K) = cadastreref2_Cmp_j3 k (fun t4 => K .ret ⟨[(4, .pv (.int .i64 t4))], []⟩) (fun a2 b3 => K .nxt ⟨[(2, .ptr 2 0), (3, .ptr 3 0)], [(2, [.pv (.int .i64 a2.f0), .pv (.int .i64 a2.f1), .pv (.str a2.f2)]), (3, [.pv (.int .i64 b3.f0), .pv (.int .i64 b3.f1), .pv (.str b3.f2)])]⟩) a2 b3 := by kernel_rfl
theorem cadastreref2_Cmp_j3_ok0 {ρ : Type} (k : Nat) : JoinOK UX (cadastreref2_Cmp_cfg (ρ := ρ) k) (cadastreref2_Cmp_G k) (cadastreref2_Cmp_J.getD 0 .skip) 3 (cadastreref2_Cmp_j3_s k) := by
  intro s K r h
  obtain ⟨env, hp⟩ := s
  unfold cadastreref2_Cmp_j3_s at h
  replace h := popS_inv h; obtain ⟨v1, e2, rfl, h⟩ := h
  replace h := asP_inv h; obtain ⟨rfl, h⟩ := h
  replace h := popS_inv h; obtain ⟨v3, e4, rfl, h⟩ := h
  replace h := asP_inv h; obtain ⟨rfl, h⟩ := h
  replace h := popN_inv h; obtain ⟨rfl, h⟩ := h
  replace h := popB_inv h; obtain ⟨c5, e6, rfl, h⟩ := h
  replace h := popA_inv h; obtain ⟨v7, c8, rfl, h⟩ := h
  replace h := asI_inv h; obtain ⟨z9, rfl, h⟩ := h
  replace h := popA_inv h; obtain ⟨v10, c11, rfl, h⟩ := h
  replace h := asI_inv h; obtain ⟨z12, rfl, h⟩ := h
  replace h := popA_inv h; obtain ⟨v13, c14, rfl, h⟩ := h
  replace h := asS_inv h; obtain ⟨z15, rfl, h⟩ := h
  replace h := popN_inv h; obtain ⟨rfl, h⟩ := h
  replace h := popB_inv h; obtain ⟨c16, e17, rfl, h⟩ := h
  replace h := popA_inv h; obtain ⟨v18, c19, rfl, h⟩ := h
  replace h := asI_inv h; obtain ⟨z20, rfl, h⟩ := h
  replace h := popA_inv h; obtain ⟨v21, c22, rfl, h⟩ := h
  replace h := asI_inv h; obtain ⟨z23, rfl, h⟩ := h
  replace h := popA_inv h; obtain ⟨v24, c25, rfl, h⟩ := h
  replace h := asS_inv h; obtain ⟨z26, rfl, h⟩ := h
  replace h := popN_inv h; obtain ⟨rfl, h⟩ := h
  replace h := popN_inv h; obtain ⟨rfl, h⟩ := h
  exact (cadastreref2_Cmp_j3_eq0 k K (⟨z9, z12, z15⟩ : S29) (⟨z20, z23, z26⟩ : S29)).trans h
theorem cadastreref2_Cmp_cok {ρ : Type} (k : Nat) : COK (cadastreref2_Cmp_cfg (ρ := ρ) k) (cadastreref2_Cmp_G k) cadastreref2_Cmp_code :=
  cok_of (tl := []) (tj := [(3, cadastreref2_Cmp_j3_s k)]) (tb := []) rfl rfl rfl (nil_all (by kernel_rfl)) (all_nth 1 (by kernel_rfl) ⟨join_case (by kernel_rfl) rfl (cadastreref2_Cmp_j3_ok0 k), trivial⟩) (fun p hp => by cases hp)
noncomputable def cadastreref2_Cmp_enc (r : Int) : AV UU := .pv (.int .i64 r)
noncomputable def cadastreref2_Cmp_dec (v : AV UU) (_ : List (List (AV UU))) : Option Int :=
asI .i64 v fun r0 =>
some r0
theorem cadastreref2_Cmp_dec_enc (v : AV UU) (b : List (List (AV UU))) (r : Int) (h : cadastreref2_Cmp_dec v b = some r) : v = cadastreref2_Cmp_enc r := by
  unfold cadastreref2_Cmp_dec at h
  replace h := asI_inv h; obtain ⟨r0, rfl, h⟩ := h
  cases h
  rfl
theorem cadastreref2_Cmp_eq (k : Nat) (a0 : S29) (b1 : S29) : bodyK UX (cadastreref2_Cmp_cfg k) (cadastreref2_Cmp_G k) Tryd.f52 [.pv (.typ (.s29 a0)), .pv (.typ (.s29 b1))] [] cadastreref2_Cmp_dec = cadastreref2_Cmp k a0 b1 := by kernel_rfl
theorem cadastreref2_Cmp_con (k : Nat) (a0 : S29) (b1 : S29) (r : Int) (h : cadastreref2_Cmp k a0 b1 = some r) : Con (X := UX) Tryd.prog 52 [.pv (.typ (.s29 a0)), .pv (.typ (.s29 b1))] [] (cadastreref2_Cmp_enc r) [] :=
  con_of_body xok tok Tryd.func52 cadastreref2_Cmp_body (cadastreref2_Cmp_gok k) rfl (cadastreref2_Cmp_cok k) (of_decide_eq_true (by kernel_rfl)) cadastreref2_Cmp_dec_enc ((cadastreref2_Cmp_eq k a0 b1).trans h)
noncomputable def cadastreref2_Cmp_an {ρ : Type} (k : Nat) : An UX ρ := fun args bx K =>
popA args fun v1 a2 =>
as_s29 v1 fun a0 =>
popA a2 fun v3 a4 =>
as_s29 v3 fun b1 =>
popN a4 <|
popN bx <|
(cadastreref2_Cmp k a0 b1).bind fun r => K (cadastreref2_Cmp_enc r) []
theorem cadastreref2_Cmp_ok {ρ : Type} (k : Nat) : AnsOK Tryd.prog 52 (cadastreref2_Cmp_an (ρ := ρ) k) := by
  intro args bx K r h
  unfold cadastreref2_Cmp_an at h
  replace h := popA_inv h; obtain ⟨v1, a2, rfl, h⟩ := h
  replace h := as_s29_inv h; obtain ⟨a0, rfl, h⟩ := h
  replace h := popA_inv h; obtain ⟨v3, a4, rfl, h⟩ := h
  replace h := as_s29_inv h; obtain ⟨b1, rfl, h⟩ := h
  replace h := popN_inv h; obtain ⟨rfl, h⟩ := h
  replace h := popN_inv h; obtain ⟨rfl, h⟩ := h
  replace h := bind_inv h
  obtain ⟨x, hx, h⟩ := h
  exact ⟨there_of Tryd.func52 (by kernel_rfl) cadastreref2_Cmp_body, _, _, h, cadastreref2_Cmp_con k a0 b1 x hx⟩

/-! cadastre/cadastreref2.Test -/
noncomputable def cadastreref2_Test_code : Code := match Tryd.f38.body with | some c => c | none => .skip
theorem cadastreref2_Test_body : Tryd.f38.body = some cadastreref2_Test_code := by kernel_rfl
noncomputable def cadastreref2_Test_G {ρ : Type} (k : Nat) : Ans UX ρ := gk 52 (cadastreref2_Cmp_an k) (gk 50 (cadastreref2_Bool_an k) (gnil))
theorem cadastreref2_Test_gok {ρ : Type} (k : Nat) : GOK Tryd.prog (cadastreref2_Test_G (ρ := ρ) k) := gok_cons (cadastreref2_Cmp_ok k) (gok_cons (cadastreref2_Bool_ok k) (gok_nil))
noncomputable def cadastreref2_Test_j3_s {ρ : Type} (k : Nat) : Run UX ρ := fun s K =>
popS 0 s.env fun v1 e2 =>
asI .i64 v1 fun op0 =>
popS 4 e2 fun v3 e4 =>
asP 4 0 v3 <|
popS 5 e4 fun v5 e6 =>
asP 5 0 v5 <|
popS 6 e6 fun v7 e8 =>
asP 6 0 v7 <|
popN e8 <|
popB 4 s.hp fun c9 e10 =>
popA c9 fun v11 c12 =>
asI .i64 v11 fun z13 =>
popA c12 fun v14 c15 =>
asI .i64 v14 fun z16 =>
popA c15 fun v17 c18 =>
asS v17 fun z19 =>
popN c18 <|
popB 5 e10 fun c20 e21 =>
popA c20 fun v22 c23 =>
asI .i64 v22 fun z24 =>
popA c23 fun v25 c26 =>
asI .i64 v25 fun z27 =>
popA c26 fun v28 c29 =>
asS v28 fun z30 =>
popN c29 <|
popB 6 e21 fun c31 e32 =>
popA c31 fun v33 c34 =>
asI .i64 v33 fun z35 =>
popA c34 fun v36 c37 =>
asI .i64 v36 fun z38 =>
popA c37 fun v39 c40 =>
asS v39 fun z41 =>
popN c40 <|
popN e32 <|
cadastreref2_Test_j3 k (fun t6 => K .ret ⟨[(6, .ptr 6 0)], [(6, [.pv (.int .i64 t6.f0), .pv (.int .i64 t6.f1), .pv (.str t6.f2)])]⟩) op0 (⟨z13, z16, z19⟩ : S29) (⟨z24, z27, z30⟩ : S29) (⟨z35, z38, z41⟩ : S29)
noncomputable def cadastreref2_Test_cfg {ρ : Type} (k : Nat) : Cfg UX ρ where
  live i := (assoc [(0, [0, 1, 2]), (1, [0, 4, 5, 6]), (2, [6]), (3, [0, 4, 5, 6]), (4, [0, 6, 7]), (5, [6, 7, 20]), (6, [6, 7]), (7, [6, 7, 20]), (8, [6, 7]), (9, [6, 7, 20]), (10, [6, 7]), (11, [6, 7, 20]), (12, [6, 7]), (13, [6, 7, 20]), (14, [6, 7]), (15, [6, 7])] i).getD []
  boxes i := (assoc [(0, []), (1, [4, 5, 6]), (2, [6]), (3, [4, 5, 6]), (4, [6]), (5, [6]), (6, [6]), (7, [6]), (8, [6]), (9, [6]), (10, [6]), (11, [6]), (12, [6]), (13, [6]), (14, [6]), (15, [6])] i).getD []
  tk i := (assoc [] i).getD []
  n := 49
  labelR l := (assoc [] l).getD 0
  loops := assoc []
  labels := assoc []
  joins := assoc [(3, cadastreref2_Test_j3_s k)]
  xl i e := match e with
    | .nxt => assoc [] i
    | .ret => assoc [(3, ([6], [6]))] i
    | .exit j => (assoc [] i).bind fun l => assoc l j
    | .goto j => (assoc [] i).bind fun l => assoc l j
noncomputable def cadastreref2_Test_L : List Code := selI [] (loopsOf cadastreref2_Test_code)
noncomputable def cadastreref2_Test_J : List Code := selI [3] (joinsOf cadastreref2_Test_code)
noncomputable def cadastreref2_Test_S : List Code := scopesOf cadastreref2_Test_code
theorem cadastreref2_Test_j3_eq0 {ρ : Type} (k : Nat) (K : Ex → St UU → Option ρ) (op0 : Int) (a4 : S29) (b5 : S29) (t6 : S29) : exec UX (cadastreref2_Test_cfg k) (cadastreref2_Test_G k) (cadastreref2_Test_J.getD 0 .skip) ⟨[(0, .pv (.int .i64 op0)), (4, .ptr 4 0), (5, .ptr 5 0), (6, .ptr 6 0)], [(4, [.pv (.int .i64 a4.f0), .pv (.int .i64 a4.f1), .pv (.str a4.f2)]), (5, [.pv (.int .i64 b5.f0), .pv (.int .i64 b5.f1), .pv (.str b5.f2)]), (6, [.pv (.int .i64 t6.f0), .pv (.int .i64 t6.f1), .pv (.str t6.f2)])]⟩ (nrmK UX (cadastreref2_Test_cfg k) 3 K) = cadastreref2_Test_j3 k (fun t6 => K .ret ⟨[(6, .ptr 6 0)], [(6, [.pv (.int .i64 t6.f0), .pv (.int .i64 t6.f1), .pv (.str t6.f2)])]⟩) op0 a4 b5 t6 := by kernel_rfl
theorem cadastreref2_Test_j3_ok0 {ρ : Type} (k : Nat) : JoinOK UX (cadastreref2_Test_cfg (ρ := ρ) k) (cadastreref2_Test_G k) (cadastreref2_Test_J.getD 0 .skip) 3 (cadastreref2_Test_j3_s k) := by
  intro s K r h
  obtain ⟨env, hp⟩ := s
  unfold cadastreref2_Test_j3_s at h
  replace h := popS_inv h; obtain ⟨v1, e2, rfl, h⟩ := h
  replace h := asI_inv h; obtain ⟨op0, rfl, h⟩ := h
  replace h := popS_inv h; obtain ⟨v3, e4, rfl, h⟩ := h
  replace h := asP_inv h; obtain ⟨rfl, h⟩ := h
  replace h := popS_inv h; obtain ⟨v5, e6, rfl, h⟩ := h
  replace h := asP_inv h; obtain ⟨rfl, h⟩ := h
  replace h := popS_inv h; obtain ⟨v7, e8, rfl, h⟩ := h
  replace h := asP_inv h; obtain ⟨rfl, h⟩ := h
  replace h := popN_inv h; obtain ⟨rfl, h⟩ := h
  replace h := popB_inv h; obtain ⟨c9, e10, rfl, h⟩ := h
  replace h := popA_inv h; obtain ⟨v11, c12, rfl, h⟩ := h
  replace h := asI_inv h; obtain ⟨z13, rfl, h⟩ := h
  replace h := popA_inv h; obtain ⟨v14, c15, rfl, h⟩ := h
  replace h := asI_inv h; obtain ⟨z16, rfl, h⟩ := h
  replace h := popA_inv h; obtain ⟨v17, c18, rfl, h⟩ := h
  replace h := asS_inv h; obtain ⟨z19, rfl, h⟩ := h
  replace h := popN_inv h; obtain ⟨rfl, h⟩ := h
  replace h := popB_inv h; obtain ⟨c20, e21, rfl, h⟩ := h
  replace h := popA_inv h; obtain ⟨v22, c23, rfl, h⟩ := h
  replace h := asI_inv h; obtain ⟨z24, rfl, h⟩ := h
  replace h := popA_inv h; obtain ⟨v25, c26, rfl, h⟩ := h
  replace h := asI_inv h; obtain ⟨z27, rfl, h⟩ := h
  replace h := popA_inv h; obtain ⟨v28, c29, rfl, h⟩ := h
  replace h := asS_inv h; obtain ⟨z30, rfl, h⟩ := h
  replace h := popN_inv h; obtain ⟨rfl, h⟩ := h
  replace h := popB_inv h; obtain ⟨c31, e32, rfl, h⟩ := h
  replace h := popA_inv h; obtain ⟨v33, c34, rfl, h⟩ := h
  replace h := asI_inv h; obtain ⟨z35, rfl, h⟩ := h
  replace h := popA_inv h; obtain ⟨v36, c37, rfl, h⟩ := h
  replace h := asI_inv h; obtain ⟨z38, rfl, h⟩ := h
  replace h := popA_inv h; obtain ⟨v39, c40, rfl, h⟩ := h
  replace h := asS_inv h; obtain ⟨z41, rfl, h⟩ := h
  replace h := popN_inv h; obtain ⟨rfl, h⟩ := h
  replace h := popN_inv h; obtain ⟨rfl, h⟩ := h
  exact (cadastreref2_Test_j3_eq0 k K op0 (⟨z13, z16, z19⟩ : S29) (⟨z24, z27, z30⟩ : S29) (⟨z35, z38, z41⟩ : S29)).trans h
theorem cadastreref2_Test_cok {ρ : Type} (k : Nat) : COK (cadastreref2_Test_cfg (ρ := ρ) k) (cadastreref2_Test_G k) cadastreref2_Test_code :=
  cok_of (tl := []) (tj := [(3, cadastreref2_Test_j3_s k)]) (tb := []) rfl rfl rfl (nil_all (by kernel_rfl)) (all_nth 1 (by kernel_rfl) ⟨join_case (by kernel_rfl) rfl (cadastreref2_Test_j3_ok0 k), trivial⟩) (fun p hp => by cases hp)
noncomputable def cadastreref2_Test_enc (r : S29) : AV UU := .pv (.typ (.s29 r))
noncomputable def cadastreref2_Test_dec (v : AV UU) (_ : List (List (AV UU))) : Option S29 :=
as_s29 v fun r0 =>
some r0
theorem cadastreref2_Test_dec_enc (v : AV UU) (b : List (List (AV UU))) (r : S29) (h : cadastreref2_Test_dec v b = some r) : v = cadastreref2_Test_enc r := by
  unfold cadastreref2_Test_dec at h
  replace h := as_s29_inv h; obtain ⟨r0, rfl, h⟩ := h
  cases h
  rfl
theorem cadastreref2_Test_eq (k : Nat) (op0 : Int) (a1 : S29) (b2 : S29) : bodyK UX (cadastreref2_Test_cfg k) (cadastreref2_Test_G k) Tryd.f38 [.pv (.int .i64 op0), .pv (.typ (.s29 a1)), .pv (.typ (.s29 b2))] [] cadastreref2_Test_dec = cadastreref2_Test k op0 a1 b2 := by kernel_rfl
theorem cadastreref2_Test_con (k : Nat) (op0 : Int) (a1 : S29) (b2 : S29) (r : S29) (h : cadastreref2_Test k op0 a1 b2 = some r) : Con (X := UX) Tryd.prog 38 [.pv (.int .i64 op0), .pv (.typ (.s29 a1)), .pv (.typ (.s29 b2))] [] (cadastreref2_Test_enc r) [] :=
  con_of_body xok tok Tryd.func38 cadastreref2_Test_body (cadastreref2_Test_gok k) rfl (cadastreref2_Test_cok k) (of_decide_eq_true (by kernel_rfl)) cadastreref2_Test_dec_enc ((cadastreref2_Test_eq k op0 a1 b2).trans h)
noncomputable def cadastreref2_Test_an {ρ : Type} (k : Nat) : An UX ρ := fun args bx K =>
popA args fun v1 a2 =>
asI .i64 v1 fun op0 =>
popA a2 fun v3 a4 =>
as_s29 v3 fun a1 =>
popA a4 fun v5 a6 =>
as_s29 v5 fun b2 =>
popN a6 <|
popN bx <|
(cadastreref2_Test k op0 a1 b2).bind fun r => K (cadastreref2_Test_enc r) []
theorem cadastreref2_Test_ok {ρ : Type} (k : Nat) : AnsOK Tryd.prog 38 (cadastreref2_Test_an (ρ := ρ) k) := by
  intro args bx K r h
  unfold cadastreref2_Test_an at h
  replace h := popA_inv h; obtain ⟨v1, a2, rfl, h⟩ := h
  replace h := asI_inv h; obtain ⟨op0, rfl, h⟩ := h
  replace h := popA_inv h; obtain ⟨v3, a4, rfl, h⟩ := h
  replace h := as_s29_inv h; obtain ⟨a1, rfl, h⟩ := h
  replace h := popA_inv h; obtain ⟨v5, a6, rfl, h⟩ := h
  replace h := as_s29_inv h; obtain ⟨b2, rfl, h⟩ := h
  replace h := popN_inv h; obtain ⟨rfl, h⟩ := h
  replace h := popN_inv h; obtain ⟨rfl, h⟩ := h
  replace h := bind_inv h
  obtain ⟨x, hx, h⟩ := h
  exact ⟨there_of Tryd.func38 (by kernel_rfl) cadastreref2_Test_body, _, _, h, cadastreref2_Test_con k op0 a1 b2 x hx⟩

/-! cadastre/cadastreref2.Join -/
noncomputable def cadastreref2_Join_code : Code := match Tryd.f39.body with | some c => c | none => .skip
theorem cadastreref2_Join_body : Tryd.f39.body = some cadastreref2_Join_code := by kernel_rfl
noncomputable def cadastreref2_Join_G {ρ : Type} (k : Nat) : Ans UX ρ := gk 21 (cadastreref2_Truth_an k) (gk 47 (cadastreref2_told_an k) (gnil))
theorem cadastreref2_Join_gok {ρ : Type} (k : Nat) : GOK Tryd.prog (cadastreref2_Join_G (ρ := ρ) k) := gok_cons (cadastreref2_Truth_ok k) (gok_cons (cadastreref2_told_ok k) (gok_nil))
noncomputable def cadastreref2_Join_j10_s {ρ : Type} (k : Nat) : Run UX ρ := fun s K =>
popS 6 s.env fun v1 e2 =>
asP 6 0 v1 <|
popS 8 e2 fun v3 e4 =>
asI .i64 v3 fun x8 =>
popS 9 e4 fun v5 e6 =>
asI .i64 v5 fun y9 =>
popS 10 e6 fun v7 e8 =>
asI .i64 v7 fun strong10 =>
popN e8 <|
popB 6 s.hp fun c9 e10 =>
popA c9 fun v11 c12 =>
asI .i64 v11 fun z13 =>
popA c12 fun v14 c15 =>
asI .i64 v14 fun z16 =>
popA c15 fun v17 c18 =>
asS v17 fun z19 =>
popN c18 <|
popN e10 <|
cadastreref2_Join_j10 k (fun t7 t6 => K .ret ⟨[(6, .ptr 6 0), (7, .pv (.int .i64 t7))], [(6, [.pv (.int .i64 t6.f0), .pv (.int .i64 t6.f1), .pv (.str t6.f2)])]⟩) (fun strong10 t6 => K .nxt ⟨[(6, .ptr 6 0), (10, .pv (.int .i64 strong10))], [(6, [.pv (.int .i64 t6.f0), .pv (.int .i64 t6.f1), .pv (.str t6.f2)])]⟩) x8 y9 strong10 (⟨z13, z16, z19⟩ : S29)
noncomputable def cadastreref2_Join_j8_s {ρ : Type} (k : Nat) : Run UX ρ := fun s K =>
popS 6 s.env fun v1 e2 =>
asP 6 0 v1 <|
popS 8 e2 fun v3 e4 =>
asI .i64 v3 fun x8 =>
popS 9 e4 fun v5 e6 =>
asI .i64 v5 fun y9 =>
popS 10 e6 fun v7 e8 =>
asI .i64 v7 fun strong10 =>
popN e8 <|
popB 6 s.hp fun c9 e10 =>
popA c9 fun v11 c12 =>
asI .i64 v11 fun z13 =>
popA c12 fun v14 c15 =>
asI .i64 v14 fun z16 =>
popA c15 fun v17 c18 =>
asS v17 fun z19 =>
popN c18 <|
popN e10 <|
cadastreref2_Join_j8 k (fun t7 t6 => K .ret ⟨[(6, .ptr 6 0), (7, .pv (.int .i64 t7))], [(6, [.pv (.int .i64 t6.f0), .pv (.int .i64 t6.f1), .pv (.str t6.f2)])]⟩) x8 y9 strong10 (⟨z13, z16, z19⟩ : S29)
noncomputable def cadastreref2_Join_j5_s {ρ : Type} (k : Nat) : Run UX ρ := fun s K =>
popS 0 s.env fun v1 e2 =>
asI .i64 v1 fun op0 =>
popS 6 e2 fun v3 e4 =>
asP 6 0 v3 <|
popS 8 e4 fun v5 e6 =>
asI .i64 v5 fun x8 =>
popS 9 e6 fun v7 e8 =>
asI .i64 v7 fun y9 =>
popN e8 <|
popB 6 s.hp fun c9 e10 =>
popA c9 fun v11 c12 =>
asI .i64 v11 fun z13 =>
popA c12 fun v14 c15 =>
asI .i64 v14 fun z16 =>
popA c15 fun v17 c18 =>
asS v17 fun z19 =>
popN c18 <|
popN e10 <|
cadastreref2_Join_j5 k (fun t7 t6 => K .ret ⟨[(6, .ptr 6 0), (7, .pv (.int .i64 t7))], [(6, [.pv (.int .i64 t6.f0), .pv (.int .i64 t6.f1), .pv (.str t6.f2)])]⟩) op0 x8 y9 (⟨z13, z16, z19⟩ : S29)
noncomputable def cadastreref2_Join_cfg {ρ : Type} (k : Nat) : Cfg UX ρ where
  live i := (assoc [(0, [0, 1, 2]), (1, [0, 4, 5, 6]), (2, [0, 5, 6, 8]), (3, [0, 6, 8, 9]), (4, [6]), (5, [0, 6, 8, 9]), (6, [0, 6, 8, 9, 10]), (7, [6, 8, 9]), (8, [6, 8, 9, 10]), (9, [6, 10]), (10, [6, 8, 9, 10]), (11, [6]), (12, [6, 10])] i).getD []
  boxes i := (assoc [(0, []), (1, [4, 5, 6]), (2, [5, 6]), (3, [6]), (4, [6]), (5, [6]), (6, [6]), (7, [6]), (8, [6]), (9, [6]), (10, [6]), (11, [6]), (12, [6])] i).getD []
  tk i := (assoc [] i).getD []
  n := 46
  labelR l := (assoc [] l).getD 0
  loops := assoc []
  labels := assoc []
  joins := assoc [(10, cadastreref2_Join_j10_s k), (8, cadastreref2_Join_j8_s k), (5, cadastreref2_Join_j5_s k)]
  xl i e := match e with
    | .nxt => assoc [(10, ([6, 10], [6]))] i
    | .ret => assoc [(10, ([6, 7], [6])), (8, ([6, 7], [6])), (5, ([6, 7], [6]))] i
    | .exit j => (assoc [] i).bind fun l => assoc l j
    | .goto j => (assoc [] i).bind fun l => assoc l j
noncomputable def cadastreref2_Join_L : List Code := selI [] (loopsOf cadastreref2_Join_code)
noncomputable def cadastreref2_Join_J : List Code := selI [10, 8, 5] (joinsOf cadastreref2_Join_code)
noncomputable def cadastreref2_Join_S : List Code := scopesOf cadastreref2_Join_code
theorem cadastreref2_Join_j5_eq0 {ρ : Type} (k : Nat) (K : Ex → St UU → Option ρ) (op0 : Int) (x8 : Int) (y9 : Int) (t6 : S29) : exec UX (cadastreref2_Join_cfg k) (cadastreref2_Join_G k) (cadastreref2_Join_J.getD 0 .skip) ⟨[(0, .pv (.int .i64 op0)), (6, .ptr 6 0), (8, .pv (.int .i64 x8)), (9, .pv (.int .i64 y9))], [(6, [.pv (.int .i64 t6.f0), .pv (.int .i64 t6.f1), .pv (.str t6.f2)])]⟩ (nrmK UX (cadastreref2_Join_cfg k) 5 K) = cadastreref2_Join_j5 k (fun t7 t6 => K .ret ⟨[(6, .ptr 6 0), (7, .pv (.int .i64 t7))], [(6, [.pv (.int .i64 t6.f0), .pv (.int .i64 t6.f1), .pv (.str t6.f2)])]⟩) op0 x8 y9 t6 := by kernel_rfl
theorem cadastreref2_Join_j5_ok0 {ρ : Type} (k : Nat) : JoinOK UX (cadastreref2_Join_cfg (ρ := ρ) k) (cadastreref2_Join_G k) (cadastreref2_Join_J.getD 0 .skip) 5 (cadastreref2_Join_j5_s k) := by
  intro s K r h
  obtain ⟨env, hp⟩ := s
  unfold cadastreref2_Join_j5_s at h
  replace h := popS_inv h; obtain ⟨v1, e2, rfl, h⟩ := h
  replace h := asI_inv h; obtain ⟨op0, rfl, h⟩ := h
  replace h := popS_inv h; obtain ⟨v3, e4, rfl, h⟩ := h
  replace h := asP_inv h; obtain ⟨rfl, h⟩ := h
  replace h := popS_inv h; obtain ⟨v5, e6, rfl, h⟩ := h
  replace h := asI_inv h; obtain ⟨x8, rfl, h⟩ := h
  replace h := popS_inv h; obtain ⟨v7, e8, rfl, h⟩ := h
  replace h := asI_inv h; obtain ⟨y9, rfl, h⟩ := h
  replace h := popN_inv h; obtain ⟨rfl, h⟩ := h
  replace h := popB_inv h; obtain ⟨c9, e10, rfl, h⟩ := h
  replace h := popA_inv h; obtain ⟨v11, c12, rfl, h⟩ := h
  replace h := asI_inv h; obtain ⟨z13, rfl, h⟩ := h
  replace h := popA_inv h; obtain ⟨v14, c15, rfl, h⟩ := h
  replace h := asI_inv h; obtain ⟨z16, rfl, h⟩ := h
  replace h := popA_inv h; obtain ⟨v17, c18, rfl, h⟩ := h
  replace h := asS_inv h; obtain ⟨z19, rfl, h⟩ := h
  replace h := popN_inv h; obtain ⟨rfl, h⟩ := h
  replace h := popN_inv h; obtain ⟨rfl, h⟩ := h
  exact (cadastreref2_Join_j5_eq0 k K op0 x8 y9 (⟨z13, z16, z19⟩ : S29)).trans h
theorem cadastreref2_Join_j8_eq1 {ρ : Type} (k : Nat) (K : Ex → St UU → Option ρ) (x8 : Int) (y9 : Int) (strong10 : Int) (t6 : S29) : exec UX (cadastreref2_Join_cfg k) (cadastreref2_Join_G k) (cadastreref2_Join_J.getD 1 .skip) ⟨[(6, .ptr 6 0), (8, .pv (.int .i64 x8)), (9, .pv (.int .i64 y9)), (10, .pv (.int .i64 strong10))], [(6, [.pv (.int .i64 t6.f0), .pv (.int .i64 t6.f1), .pv (.str t6.f2)])]⟩ (nrmK UX (cadastreref2_Join_cfg k) 8 K) = cadastreref2_Join_j8 k (fun t7 t6 => K .ret ⟨[(6, .ptr 6 0), (7, .pv (.int .i64 t7))], [(6, [.pv (.int .i64 t6.f0), .pv (.int .i64 t6.f1), .pv (.str t6.f2)])]⟩) x8 y9 strong10 t6 := by kernel_rfl
theorem cadastreref2_Join_j8_ok1 {ρ : Type} (k : Nat) : JoinOK UX (cadastreref2_Join_cfg (ρ := ρ) k) (cadastreref2_Join_G k) (cadastreref2_Join_J.getD 1 .skip) 8 (cadastreref2_Join_j8_s k) := by
  intro s K r h
  obtain ⟨env, hp⟩ := s
  unfold cadastreref2_Join_j8_s at h
  replace h := popS_inv h; obtain ⟨v1, e2, rfl, h⟩ := h
  replace h := asP_inv h; obtain ⟨rfl, h⟩ := h
  replace h := popS_inv h; obtain ⟨v3, e4, rfl, h⟩ := h
  replace h := asI_inv h; obtain ⟨x8, rfl, h⟩ := h
  replace h := popS_inv h; obtain ⟨v5, e6, rfl, h⟩ := h
  replace h := asI_inv h; obtain ⟨y9, rfl, h⟩ := h
  replace h := popS_inv h; obtain ⟨v7, e8, rfl, h⟩ := h
  replace h := asI_inv h; obtain ⟨strong10, rfl, h⟩ := h
  replace h := popN_inv h; obtain ⟨rfl, h⟩ := h
  replace h := popB_inv h; obtain ⟨c9, e10, rfl, h⟩ := h
  replace h := popA_inv h; obtain ⟨v11, c12, rfl, h⟩ := h
  replace h := asI_inv h; obtain ⟨z13, rfl, h⟩ := h
  replace h := popA_inv h; obtain ⟨v14, c15, rfl, h⟩ := h
  replace h := asI_inv h; obtain ⟨z16, rfl, h⟩ := h
  replace h := popA_inv h; obtain ⟨v17, c18, rfl, h⟩ := h
  replace h := asS_inv h; obtain ⟨z19, rfl, h⟩ := h
  replace h := popN_inv h; obtain ⟨rfl, h⟩ := h
  replace h := popN_inv h; obtain ⟨rfl, h⟩ := h
  exact (cadastreref2_Join_j8_eq1 k K x8 y9 strong10 (⟨z13, z16, z19⟩ : S29)).trans h
theorem cadastreref2_Join_j10_eq2 {ρ : Type} (k : Nat) (K : Ex → St UU → Option ρ) (x8 : Int) (y9 : Int) (strong10 : Int) (t6 : S29) : exec UX (cadastreref2_Join_cfg k) (cadastreref2_Join_G k) (cadastreref2_Join_J.getD 2 .skip) ⟨[(6, .ptr 6 0), (8, .pv (.int .i64 x8)), (9, .pv (.int .i64 y9)), (10, .pv (.int .i64 strong10))], [(6, [.pv (.int .i64 t6.f0), .pv (.int .i64 t6.f1), .pv (.str t6.f2)])]⟩ (nrmK UX (cadastreref2_Join_cfg k) 10 K) = cadastreref2_Join_j10 k (fun t7 t6 => K .ret ⟨[(6, .ptr 6 0), (7, .pv (.int .i64 t7))], [(6, [.pv (.int .i64 t6.f0), .pv (.int .i64 t6.f1), .pv (.str t6.f2)])]⟩) (fun strong10 t6 => K .nxt ⟨[(6, .ptr 6 0), (10, .pv (.int .i64 strong10))], [(6, [.pv (.int .i64 t6.f0), .pv (.int .i64 t6.f1), .pv (.str t6.f2)])]⟩) x8 y9 strong10 t6 := by kernel_rfl
theorem cadastreref2_Join_j10_ok2 {ρ : Type} (k : Nat) : JoinOK UX (cadastreref2_Join_cfg (ρ := ρ) k) (cadastreref2_Join_G k) (cadastreref2_Join_J.getD 2 .skip) 10 (cadastreref2_Join_j10_s k) := by
  intro s K r h
  obtain ⟨env, hp⟩ := s
  unfold cadastreref2_Join_j10_s at h
  replace h := popS_inv h; obtain ⟨v1, e2, rfl, h⟩ := h
  replace h := asP_inv h; obtain ⟨rfl, h⟩ := h
  replace h := popS_inv h; obtain ⟨v3, e4, rfl, h⟩ := h
  replace h := asI_inv h; obtain ⟨x8, rfl, h⟩ := h
  replace h := popS_inv h; obtain ⟨v5, e6, rfl, h⟩ := h
  replace h := asI_inv h; obtain ⟨y9, rfl, h⟩ := h
  replace h := popS_inv h; obtain ⟨v7, e8, rfl, h⟩ := h
  replace h := asI_inv h; obtain ⟨strong10, rfl, h⟩ := h
  replace h := popN_inv h; obtain ⟨rfl, h⟩ := h
  replace h := popB_inv h; obtain ⟨c9, e10, rfl, h⟩ := h
  replace h := popA_inv h; obtain ⟨v11, c12, rfl, h⟩ := h
  replace h := asI_inv h; obtain ⟨z13, rfl, h⟩ := h
  replace h := popA_inv h; obtain ⟨v14, c15, rfl, h⟩ := h
  replace h := asI_inv h; obtain ⟨z16, rfl, h⟩ := h
  replace h := popA_inv h; obtain ⟨v17, c18, rfl, h⟩ := h
  replace h := asS_inv h; obtain ⟨z19, rfl, h⟩ := h
  replace h := popN_inv h; obtain ⟨rfl, h⟩ := h
  replace h := popN_inv h; obtain ⟨rfl, h⟩ := h
  exact (cadastreref2_Join_j10_eq2 k K x8 y9 strong10 (⟨z13, z16, z19⟩ : S29)).trans h
theorem cadastreref2_Join_cok {ρ : Type} (k : Nat) : COK (cadastreref2_Join_cfg (ρ := ρ) k) (cadastreref2_Join_G k) cadastreref2_Join_code :=
  cok_of (tl := []) (tj := [(10, cadastreref2_Join_j10_s k), (8, cadastreref2_Join_j8_s k), (5, cadastreref2_Join_j5_s k)]) (tb := []) rfl rfl rfl (nil_all (by kernel_rfl)) (all_nth 3 (by kernel_rfl) ⟨join_case (by kernel_rfl) rfl (cadastreref2_Join_j10_ok2 k), join_case (by kernel_rfl) rfl (cadastreref2_Join_j8_ok1 k), join_case (by kernel_rfl) rfl (cadastreref2_Join_j5_ok0 k), trivial⟩) (fun p hp => by cases hp)
noncomputable def cadastreref2_Join_enc (r : S29 × Int) : AV UU := .pv (.tup [.typ (.s29 r.1), .int .i64 r.2])
noncomputable def cadastreref2_Join_dec (v : AV UU) (_ : List (List (AV UU))) : Option (S29 × Int) :=
asT v fun q1 =>
popA q1 fun p2 q3 =>
as_s29 (.pv p2) fun r0 =>
popA q3 fun p4 q5 =>
asI .i64 (.pv p4) fun r1 =>
popN q5 <|
some (r0, r1)
theorem cadastreref2_Join_dec_enc (v : AV UU) (b : List (List (AV UU))) (r : S29 × Int) (h : cadastreref2_Join_dec v b = some r) : v = cadastreref2_Join_enc r := by
  unfold cadastreref2_Join_dec at h
  replace h := asT_inv h; obtain ⟨q1, rfl, h⟩ := h
  replace h := popA_inv h; obtain ⟨p2, q3, rfl, h⟩ := h
  replace h := as_s29_inv h; obtain ⟨r0, e, h⟩ := h; cases e
  replace h := popA_inv h; obtain ⟨p4, q5, rfl, h⟩ := h
  replace h := asI_inv h; obtain ⟨r1, e, h⟩ := h; cases e
  replace h := popN_inv h; obtain ⟨rfl, h⟩ := h
  cases h
  rfl
theorem cadastreref2_Join_eq (k : Nat) (op0 : Int) (a1 : S29) (b2 : S29) : bodyK UX (cadastreref2_Join_cfg k) (cadastreref2_Join_G k) Tryd.f39 [.pv (.int .i64 op0), .pv (.typ (.s29 a1)), .pv (.typ (.s29 b2))] [] cadastreref2_Join_dec = cadastreref2_Join k op0 a1 b2 := by kernel_rfl
theorem cadastreref2_Join_con (k : Nat) (op0 : Int) (a1 : S29) (b2 : S29) (r : S29 × Int) (h : cadastreref2_Join k op0 a1 b2 = some r) : Con (X := UX) Tryd.prog 39 [.pv (.int .i64 op0), .pv (.typ (.s29 a1)), .pv (.typ (.s29 b2))] [] (cadastreref2_Join_enc r) [] :=
  con_of_body xok tok Tryd.func39 cadastreref2_Join_body (cadastreref2_Join_gok k) rfl (cadastreref2_Join_cok k) (of_decide_eq_true (by kernel_rfl)) cadastreref2_Join_dec_enc ((cadastreref2_Join_eq k op0 a1 b2).trans h)
noncomputable def cadastreref2_Join_an {ρ : Type} (k : Nat) : An UX ρ := fun args bx K =>
popA args fun v1 a2 =>
asI .i64 v1 fun op0 =>
popA a2 fun v3 a4 =>
as_s29 v3 fun a1 =>
popA a4 fun v5 a6 =>
as_s29 v5 fun b2 =>
popN a6 <|
popN bx <|
(cadastreref2_Join k op0 a1 b2).bind fun r => K (cadastreref2_Join_enc r) []
theorem cadastreref2_Join_ok {ρ : Type} (k : Nat) : AnsOK Tryd.prog 39 (cadastreref2_Join_an (ρ := ρ) k) := by
  intro args bx K r h
  unfold cadastreref2_Join_an at h
  replace h := popA_inv h; obtain ⟨v1, a2, rfl, h⟩ := h
  replace h := asI_inv h; obtain ⟨op0, rfl, h⟩ := h
  replace h := popA_inv h; obtain ⟨v3, a4, rfl, h⟩ := h
  replace h := as_s29_inv h; obtain ⟨a1, rfl, h⟩ := h
  replace h := popA_inv h; obtain ⟨v5, a6, rfl, h⟩ := h
  replace h := as_s29_inv h; obtain ⟨b2, rfl, h⟩ := h
  replace h := popN_inv h; obtain ⟨rfl, h⟩ := h
  replace h := popN_inv h; obtain ⟨rfl, h⟩ := h
  replace h := bind_inv h
  obtain ⟨x, hx, h⟩ := h
  exact ⟨there_of Tryd.func39 (by kernel_rfl) cadastreref2_Join_body, _, _, h, cadastreref2_Join_con k op0 a1 b2 x hx⟩
end Go.Proofs.YtjkgphpmdkbpfaaDoor.V
