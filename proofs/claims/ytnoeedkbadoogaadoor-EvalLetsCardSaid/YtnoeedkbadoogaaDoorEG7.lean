/-
  What the program's functions answer: the printed functions' answers.
-/
import Derived.Test.YtnoeedkbadoogaaDoorEG6
namespace Go.Proofs.YtnoeedkbadoogaaDoor.E
open Go Go.AX
/-! cadastre/cadastrelaw23.num -/
noncomputable def cadastrelaw23_num_code : Code := match Tryd.f12.body with | some c => c | none => .skip
theorem cadastrelaw23_num_body : Tryd.f12.body = some cadastrelaw23_num_code := by kernel_rfl
noncomputable def cadastrelaw23_num_G {ρ : Type} (k : Nat) : Ans UX ρ := gnil
theorem cadastrelaw23_num_gok {ρ : Type} (k : Nat) : GOK Tryd.prog (cadastrelaw23_num_G (ρ := ρ) k) := gok_nil
noncomputable def cadastrelaw23_num_cfg {ρ : Type} (k : Nat) : Cfg UX ρ where
  live i := (assoc [(0, [0]), (1, [0])] i).getD []
  boxes i := (assoc [(0, []), (1, [])] i).getD []
  tk i := (assoc [] i).getD []
  n := 4
  labelR l := (assoc [] l).getD 0
  loops := assoc []
  labels := assoc []
  joins := assoc []
  xl i e := match e with
    | .nxt => assoc [] i
    | .ret => assoc [] i
    | .exit j => (assoc [] i).bind fun l => assoc l j
    | .goto j => (assoc [] i).bind fun l => assoc l j
noncomputable def cadastrelaw23_num_L : List Code := selI [] (loopsOf cadastrelaw23_num_code)
noncomputable def cadastrelaw23_num_J : List Code := selI [] (joinsOf cadastrelaw23_num_code)
noncomputable def cadastrelaw23_num_S : List Code := scopesOf cadastrelaw23_num_code
theorem cadastrelaw23_num_cok {ρ : Type} (k : Nat) : COK (cadastrelaw23_num_cfg (ρ := ρ) k) (cadastrelaw23_num_G k) cadastrelaw23_num_code :=
  cok_of (tl := []) (tj := []) (tb := []) rfl rfl rfl (nil_all (by kernel_rfl)) (nil_all (by kernel_rfl)) (fun p hp => by cases hp)
noncomputable def cadastrelaw23_num_enc (r : Int) : AV UU := .pv (.int .i64 r)
noncomputable def cadastrelaw23_num_dec (v : AV UU) (_ : List (List (AV UU))) : Option Int :=
asI .i64 v fun r0 =>
some r0
theorem cadastrelaw23_num_dec_enc (v : AV UU) (b : List (List (AV UU))) (r : Int) (h : cadastrelaw23_num_dec v b = some r) : v = cadastrelaw23_num_enc r := by
  unfold cadastrelaw23_num_dec at h
  replace h := asI_inv h; obtain ⟨r0, rfl, h⟩ := h
  cases h
  rfl
theorem cadastrelaw23_num_eq (k : Nat) (e0 : Int) : bodyK UX (cadastrelaw23_num_cfg k) (cadastrelaw23_num_G k) Tryd.f12 [.pv (.int .i64 e0)] [] cadastrelaw23_num_dec = cadastrelaw23_num k e0 := by kernel_rfl
theorem cadastrelaw23_num_con (k : Nat) (e0 : Int) (r : Int) (h : cadastrelaw23_num k e0 = some r) : Con (X := UX) Tryd.prog 12 [.pv (.int .i64 e0)] [] (cadastrelaw23_num_enc r) [] :=
  con_of_body xok tok Tryd.func12 cadastrelaw23_num_body (cadastrelaw23_num_gok k) rfl (cadastrelaw23_num_cok k) (of_decide_eq_true (by kernel_rfl)) cadastrelaw23_num_dec_enc ((cadastrelaw23_num_eq k e0).trans h)
noncomputable def cadastrelaw23_num_an {ρ : Type} (k : Nat) : An UX ρ := fun args bx K =>
popA args fun v1 a2 =>
asI .i64 v1 fun e0 =>
popN a2 <|
popN bx <|
(cadastrelaw23_num k e0).bind fun r => K (cadastrelaw23_num_enc r) []
theorem cadastrelaw23_num_ok {ρ : Type} (k : Nat) : AnsOK Tryd.prog 12 (cadastrelaw23_num_an (ρ := ρ) k) := by
  intro args bx K r h
  unfold cadastrelaw23_num_an at h
  replace h := popA_inv h; obtain ⟨v1, a2, rfl, h⟩ := h
  replace h := asI_inv h; obtain ⟨e0, rfl, h⟩ := h
  replace h := popN_inv h; obtain ⟨rfl, h⟩ := h
  replace h := popN_inv h; obtain ⟨rfl, h⟩ := h
  replace h := bind_inv h
  obtain ⟨x, hx, h⟩ := h
  exact ⟨there_of Tryd.func12 (by kernel_rfl) cadastrelaw23_num_body, _, _, h, cadastrelaw23_num_con k e0 x hx⟩

/-! cadastre/cadastrelaw23.wakes -/
noncomputable def cadastrelaw23_wakes_code : Code := match Tryd.f16.body with | some c => c | none => .skip
theorem cadastrelaw23_wakes_body : Tryd.f16.body = some cadastrelaw23_wakes_code := by kernel_rfl
noncomputable def cadastrelaw23_wakes_G {ρ : Type} (k : Nat) : Ans UX ρ := gk 11 (eval_Eval_an k) (gk 12 (cadastrelaw23_num_an k) (gnil))
theorem cadastrelaw23_wakes_gok {ρ : Type} (k : Nat) : GOK Tryd.prog (cadastrelaw23_wakes_G (ρ := ρ) k) := gok_cons (eval_Eval_ok k) (gok_cons (cadastrelaw23_num_ok k) (gok_nil))
noncomputable def cadastrelaw23_wakes_cfg {ρ : Type} (k : Nat) : Cfg UX ρ where
  live i := (assoc [(0, []), (1, []), (2, [1]), (3, [2, 3])] i).getD []
  boxes i := (assoc [(0, []), (1, []), (2, [1]), (3, [2])] i).getD []
  tk i := (assoc [] i).getD []
  n := 22
  labelR l := (assoc [] l).getD 0
  loops := assoc []
  labels := assoc []
  joins := assoc []
  xl i e := match e with
    | .nxt => assoc [] i
    | .ret => assoc [] i
    | .exit j => (assoc [] i).bind fun l => assoc l j
    | .goto j => (assoc [] i).bind fun l => assoc l j
noncomputable def cadastrelaw23_wakes_L : List Code := selI [] (loopsOf cadastrelaw23_wakes_code)
noncomputable def cadastrelaw23_wakes_J : List Code := selI [] (joinsOf cadastrelaw23_wakes_code)
noncomputable def cadastrelaw23_wakes_S : List Code := scopesOf cadastrelaw23_wakes_code
theorem cadastrelaw23_wakes_cok {ρ : Type} (k : Nat) : COK (cadastrelaw23_wakes_cfg (ρ := ρ) k) (cadastrelaw23_wakes_G k) cadastrelaw23_wakes_code :=
  cok_of (tl := []) (tj := []) (tb := []) rfl rfl rfl (nil_all (by kernel_rfl)) (nil_all (by kernel_rfl)) (fun p hp => by cases hp)
noncomputable def cadastrelaw23_wakes_enc (r : Bool) : AV UU := .pv (.bool r)
noncomputable def cadastrelaw23_wakes_dec (v : AV UU) (_ : List (List (AV UU))) : Option Bool :=
asB v fun r0 =>
some r0
theorem cadastrelaw23_wakes_dec_enc (v : AV UU) (b : List (List (AV UU))) (r : Bool) (h : cadastrelaw23_wakes_dec v b = some r) : v = cadastrelaw23_wakes_enc r := by
  unfold cadastrelaw23_wakes_dec at h
  replace h := asB_inv h; obtain ⟨r0, rfl, h⟩ := h
  cases h
  rfl
theorem cadastrelaw23_wakes_eq (k : Nat) : bodyK UX (cadastrelaw23_wakes_cfg k) (cadastrelaw23_wakes_G k) Tryd.f16 [] [] cadastrelaw23_wakes_dec = cadastrelaw23_wakes k := by kernel_rfl
theorem cadastrelaw23_wakes_con (k : Nat) (r : Bool) (h : cadastrelaw23_wakes k = some r) : Con (X := UX) Tryd.prog 16 [] [] (cadastrelaw23_wakes_enc r) [] :=
  con_of_body xok tok Tryd.func16 cadastrelaw23_wakes_body (cadastrelaw23_wakes_gok k) rfl (cadastrelaw23_wakes_cok k) (of_decide_eq_true (by kernel_rfl)) cadastrelaw23_wakes_dec_enc ((cadastrelaw23_wakes_eq k).trans h)
noncomputable def cadastrelaw23_wakes_an {ρ : Type} (k : Nat) : An UX ρ := fun args bx K =>
popN args <|
popN bx <|
(cadastrelaw23_wakes k).bind fun r => K (cadastrelaw23_wakes_enc r) []
theorem cadastrelaw23_wakes_ok {ρ : Type} (k : Nat) : AnsOK Tryd.prog 16 (cadastrelaw23_wakes_an (ρ := ρ) k) := by
  intro args bx K r h
  unfold cadastrelaw23_wakes_an at h
  replace h := popN_inv h; obtain ⟨rfl, h⟩ := h
  replace h := popN_inv h; obtain ⟨rfl, h⟩ := h
  replace h := bind_inv h
  obtain ⟨x, hx, h⟩ := h
  exact ⟨there_of Tryd.func16 (by kernel_rfl) cadastrelaw23_wakes_body, _, _, h, cadastrelaw23_wakes_con k x hx⟩

/-! cadastre/cadastrelaw23.EvalLets -/
noncomputable def cadastrelaw23_EvalLets_code : Code := match Tryd.f5.body with | some c => c | none => .skip
theorem cadastrelaw23_EvalLets_body : Tryd.f5.body = some cadastrelaw23_EvalLets_code := by kernel_rfl
noncomputable def cadastrelaw23_EvalLets_G {ρ : Type} (k : Nat) : Ans UX ρ := gk 10 (cadastrelaw23_Heavy_an k) (gk 11 (eval_Eval_an k) (gk 17 (eval_Lets_an k) (gk 12 (cadastrelaw23_num_an k) (gk 16 (cadastrelaw23_wakes_an k) (gnil)))))
theorem cadastrelaw23_EvalLets_gok {ρ : Type} (k : Nat) : GOK Tryd.prog (cadastrelaw23_EvalLets_G (ρ := ρ) k) := gok_cons (cadastrelaw23_Heavy_ok k) (gok_cons (eval_Eval_ok k) (gok_cons (eval_Lets_ok k) (gok_cons (cadastrelaw23_num_ok k) (gok_cons (cadastrelaw23_wakes_ok k) (gok_nil)))))
noncomputable def cadastrelaw23_EvalLets_j14_s {ρ : Type} (k : Nat) : Run UX ρ := fun s K =>
popS 0 s.env fun v1 e2 =>
as_l37 v1 fun l0 =>
popS 3 e2 fun v3 e4 =>
asI .i64 v3 fun i3 =>
popS 4 e4 fun v5 e6 =>
asP 4 0 v5 <|
popS 7 e6 fun v7 e8 =>
asB v7 fun lets7 =>
popN e8 <|
popB 4 s.hp fun c9 e10 =>
popA c9 fun v11 c12 =>
asI .i64 v11 fun z13 =>
popA c12 fun v14 c15 =>
asI .i64 v14 fun z16 =>
popA c15 fun v17 c18 =>
asI .i64 v17 fun z19 =>
popA c18 fun v20 c21 =>
asS v20 fun z22 =>
popA c21 fun v23 c24 =>
asS v23 fun z25 =>
popA c24 fun v26 c27 =>
asS v26 fun z28 =>
popA c27 fun v29 c30 =>
as_l25 v29 fun z31 =>
popA c30 fun v32 c33 =>
as_l23 v32 fun z34 =>
popN c33 <|
popN e10 <|
cadastrelaw23_EvalLets_j14 k (fun t2 => K .ret ⟨[(2, .pv (.bool t2))], []⟩) (fun l0 i3 => K .nxt ⟨[(0, .pv (.typ (.l37 l0))), (3, .pv (.int .i64 i3))], []⟩) l0 i3 lets7 (⟨(⟨z13, (⟨z16, z19, z22⟩ : S23), z25, z28, z31⟩ : S25), z34⟩ : S37)
noncomputable def cadastrelaw23_EvalLets_j4_s {ρ : Type} (k : Nat) : Run UX ρ := fun s K =>
popS 0 s.env fun v1 e2 =>
as_l37 v1 fun l0 =>
popS 3 e2 fun v3 e4 =>
asI .i64 v3 fun i3 =>
popN e4 <|
popN s.hp <|
cadastrelaw23_EvalLets_j4 k (fun t2 => K .ret ⟨[(2, .pv (.bool t2))], []⟩) (fun l0 i3 => K .nxt ⟨[(0, .pv (.typ (.l37 l0))), (3, .pv (.int .i64 i3))], []⟩) l0 i3
noncomputable def cadastrelaw23_EvalLets_l2_s {ρ : Type} (k : Nat) : Run UX ρ := fun s K =>
popS 0 s.env fun v1 e2 =>
as_l37 v1 fun l0 =>
popS 3 e2 fun v3 e4 =>
asI .i64 v3 fun i3 =>
popN e4 <|
popN s.hp <|
cadastrelaw23_EvalLets_l2 k (fun t2 => K .ret ⟨[(2, .pv (.bool t2))], []⟩) (K (.exit 0) ⟨[], []⟩) k l0 i3
noncomputable def cadastrelaw23_EvalLets_cfg {ρ : Type} (k : Nat) : Cfg UX ρ where
  live i := (assoc [(0, [0]), (1, [0]), (2, [0, 3]), (3, [0, 3]), (4, [0, 3]), (5, [0, 3, 4]), (6, []), (7, [0, 3, 4]), (8, [0, 3, 4, 5, 6]), (9, [0, 3, 4, 5, 6, 7, 8]), (10, [0, 3, 7, 8]), (11, []), (12, [0, 3, 4, 5, 6, 7, 8]), (13, []), (14, [0, 3, 4, 7]), (15, [0, 3, 7, 9, 10]), (16, []), (17, [])] i).getD []
  boxes i := (assoc [(0, []), (1, []), (2, []), (3, []), (4, []), (5, [4]), (6, []), (7, [4]), (8, [4, 5]), (9, [4, 5]), (10, []), (11, []), (12, [4, 5]), (13, []), (14, [4]), (15, []), (16, []), (17, [])] i).getD []
  tk i := (assoc [] i).getD []
  n := 92
  labelR l := (assoc [] l).getD 0
  loops := assoc [(2, cadastrelaw23_EvalLets_l2_s k)]
  labels := assoc []
  joins := assoc [(14, cadastrelaw23_EvalLets_j14_s k), (4, cadastrelaw23_EvalLets_j4_s k)]
  xl i e := match e with
    | .nxt => assoc [(14, ([0, 3], [])), (4, ([0, 3], []))] i
    | .ret => assoc [(14, ([2], [])), (4, ([2], [])), (2, ([2], []))] i
    | .exit j => (assoc [(2, [(0, ([], []))])] i).bind fun l => assoc l j
    | .goto j => (assoc [] i).bind fun l => assoc l j
noncomputable def cadastrelaw23_EvalLets_L : List Code := selI [2] (loopsOf cadastrelaw23_EvalLets_code)
noncomputable def cadastrelaw23_EvalLets_J : List Code := selI [14, 4] (joinsOf cadastrelaw23_EvalLets_code)
noncomputable def cadastrelaw23_EvalLets_S : List Code := scopesOf cadastrelaw23_EvalLets_code
theorem cadastrelaw23_EvalLets_l2_eq0 {ρ : Type} (k : Nat) (K : Ex → St UU → Option ρ) : ∀ (n : Nat) (v : (List S37) × Int), iterK UX (fun s => s.at (cadastrelaw23_EvalLets_cfg (ρ := ρ) k).live (cadastrelaw23_EvalLets_cfg (ρ := ρ) k).boxes (some 2)) (exec UX (cadastrelaw23_EvalLets_cfg k) (cadastrelaw23_EvalLets_G k) (cadastrelaw23_EvalLets_L.getD 0 .skip)) n ⟨[(0, .pv (.typ (.l37 v.1))), (3, .pv (.int .i64 v.2))], []⟩ (nrmK UX (cadastrelaw23_EvalLets_cfg k) 2 K) = cadastrelaw23_EvalLets_l2 k (fun t2 => K .ret ⟨[(2, .pv (.bool t2))], []⟩) (K (.exit 0) ⟨[], []⟩) n v.1 v.2 :=
  iter_rec (X := UX) (fun v => ⟨[(0, .pv (.typ (.l37 v.1))), (3, .pv (.int .i64 v.2))], []⟩) (fun rec v => cadastrelaw23_EvalLets_l2_b k (fun t2 => K .ret ⟨[(2, .pv (.bool t2))], []⟩) (K (.exit 0) ⟨[], []⟩) (fun l0 i3 => rec (l0, i3)) v.1 v.2) (fun n v => cadastrelaw23_EvalLets_l2 k (fun t2 => K .ret ⟨[(2, .pv (.bool t2))], []⟩) (K (.exit 0) ⟨[], []⟩) n v.1 v.2) (fun n v => by kernel_rfl) (fun _ => rfl) (fun _ _ => rfl)
theorem cadastrelaw23_EvalLets_l2_ok0 {ρ : Type} (k : Nat) : IterOK UX (cadastrelaw23_EvalLets_cfg (ρ := ρ) k) (cadastrelaw23_EvalLets_G k) (cadastrelaw23_EvalLets_L.getD 0 .skip) 2 (cadastrelaw23_EvalLets_l2_s k) := by
  intro s K r h
  obtain ⟨env, hp⟩ := s
  unfold cadastrelaw23_EvalLets_l2_s at h
  replace h := popS_inv h; obtain ⟨v1, e2, rfl, h⟩ := h
  replace h := as_l37_inv h; obtain ⟨l0, rfl, h⟩ := h
  replace h := popS_inv h; obtain ⟨v3, e4, rfl, h⟩ := h
  replace h := asI_inv h; obtain ⟨i3, rfl, h⟩ := h
  replace h := popN_inv h; obtain ⟨rfl, h⟩ := h
  replace h := popN_inv h; obtain ⟨rfl, h⟩ := h
  exact ⟨k, (cadastrelaw23_EvalLets_l2_eq0 k K k (l0, i3)).trans h⟩
theorem cadastrelaw23_EvalLets_j4_eq0 {ρ : Type} (k : Nat) (K : Ex → St UU → Option ρ) (l0 : List S37) (i3 : Int) : exec UX (cadastrelaw23_EvalLets_cfg k) (cadastrelaw23_EvalLets_G k) (cadastrelaw23_EvalLets_J.getD 0 .skip) ⟨[(0, .pv (.typ (.l37 l0))), (3, .pv (.int .i64 i3))], []⟩ (nrmK UX (cadastrelaw23_EvalLets_cfg k) 4 K) = cadastrelaw23_EvalLets_j4 k (fun t2 => K .ret ⟨[(2, .pv (.bool t2))], []⟩) (fun l0 i3 => K .nxt ⟨[(0, .pv (.typ (.l37 l0))), (3, .pv (.int .i64 i3))], []⟩) l0 i3 := by kernel_rfl
theorem cadastrelaw23_EvalLets_j4_ok0 {ρ : Type} (k : Nat) : JoinOK UX (cadastrelaw23_EvalLets_cfg (ρ := ρ) k) (cadastrelaw23_EvalLets_G k) (cadastrelaw23_EvalLets_J.getD 0 .skip) 4 (cadastrelaw23_EvalLets_j4_s k) := by
  intro s K r h
  obtain ⟨env, hp⟩ := s
  unfold cadastrelaw23_EvalLets_j4_s at h
  replace h := popS_inv h; obtain ⟨v1, e2, rfl, h⟩ := h
  replace h := as_l37_inv h; obtain ⟨l0, rfl, h⟩ := h
  replace h := popS_inv h; obtain ⟨v3, e4, rfl, h⟩ := h
  replace h := asI_inv h; obtain ⟨i3, rfl, h⟩ := h
  replace h := popN_inv h; obtain ⟨rfl, h⟩ := h
  replace h := popN_inv h; obtain ⟨rfl, h⟩ := h
  exact (cadastrelaw23_EvalLets_j4_eq0 k K l0 i3).trans h
theorem cadastrelaw23_EvalLets_j14_eq1 {ρ : Type} (k : Nat) (K : Ex → St UU → Option ρ) (l0 : List S37) (i3 : Int) (lets7 : Bool) (p4 : S37) : exec UX (cadastrelaw23_EvalLets_cfg k) (cadastrelaw23_EvalLets_G k) (cadastrelaw23_EvalLets_J.getD 1 .skip) ⟨[(0, .pv (.typ (.l37 l0))), (3, .pv (.int .i64 i3)), (4, .ptr 4 0), (7, .pv (.bool lets7))], [(4, [.pv (.int .i64 p4.f0.f0), .pv (.int .i64 p4.f0.f1.f0), .pv (.int .i64 p4.f0.f1.f1), .pv (.str p4.f0.f1.f2), .pv (.str p4.f0.f2), .pv (.str p4.f0.f3), .pv (.typ (.l25 p4.f0.f4)), .pv (.typ (.l23 p4.f1))])]⟩ (nrmK UX (cadastrelaw23_EvalLets_cfg k) 14 K) = cadastrelaw23_EvalLets_j14 k (fun t2 => K .ret ⟨[(2, .pv (.bool t2))], []⟩) (fun l0 i3 => K .nxt ⟨[(0, .pv (.typ (.l37 l0))), (3, .pv (.int .i64 i3))], []⟩) l0 i3 lets7 p4 := by kernel_rfl
theorem cadastrelaw23_EvalLets_j14_ok1 {ρ : Type} (k : Nat) : JoinOK UX (cadastrelaw23_EvalLets_cfg (ρ := ρ) k) (cadastrelaw23_EvalLets_G k) (cadastrelaw23_EvalLets_J.getD 1 .skip) 14 (cadastrelaw23_EvalLets_j14_s k) := by
  intro s K r h
  obtain ⟨env, hp⟩ := s
  unfold cadastrelaw23_EvalLets_j14_s at h
  replace h := popS_inv h; obtain ⟨v1, e2, rfl, h⟩ := h
  replace h := as_l37_inv h; obtain ⟨l0, rfl, h⟩ := h
  replace h := popS_inv h; obtain ⟨v3, e4, rfl, h⟩ := h
  replace h := asI_inv h; obtain ⟨i3, rfl, h⟩ := h
  replace h := popS_inv h; obtain ⟨v5, e6, rfl, h⟩ := h
  replace h := asP_inv h; obtain ⟨rfl, h⟩ := h
  replace h := popS_inv h; obtain ⟨v7, e8, rfl, h⟩ := h
  replace h := asB_inv h; obtain ⟨lets7, rfl, h⟩ := h
  replace h := popN_inv h; obtain ⟨rfl, h⟩ := h
  replace h := popB_inv h; obtain ⟨c9, e10, rfl, h⟩ := h
  replace h := popA_inv h; obtain ⟨v11, c12, rfl, h⟩ := h
  replace h := asI_inv h; obtain ⟨z13, rfl, h⟩ := h
  replace h := popA_inv h; obtain ⟨v14, c15, rfl, h⟩ := h
  replace h := asI_inv h; obtain ⟨z16, rfl, h⟩ := h
  replace h := popA_inv h; obtain ⟨v17, c18, rfl, h⟩ := h
  replace h := asI_inv h; obtain ⟨z19, rfl, h⟩ := h
  replace h := popA_inv h; obtain ⟨v20, c21, rfl, h⟩ := h
  replace h := asS_inv h; obtain ⟨z22, rfl, h⟩ := h
  replace h := popA_inv h; obtain ⟨v23, c24, rfl, h⟩ := h
  replace h := asS_inv h; obtain ⟨z25, rfl, h⟩ := h
  replace h := popA_inv h; obtain ⟨v26, c27, rfl, h⟩ := h
  replace h := asS_inv h; obtain ⟨z28, rfl, h⟩ := h
  replace h := popA_inv h; obtain ⟨v29, c30, rfl, h⟩ := h
  replace h := as_l25_inv h; obtain ⟨z31, rfl, h⟩ := h
  replace h := popA_inv h; obtain ⟨v32, c33, rfl, h⟩ := h
  replace h := as_l23_inv h; obtain ⟨z34, rfl, h⟩ := h
  replace h := popN_inv h; obtain ⟨rfl, h⟩ := h
  replace h := popN_inv h; obtain ⟨rfl, h⟩ := h
  exact (cadastrelaw23_EvalLets_j14_eq1 k K l0 i3 lets7 (⟨(⟨z13, (⟨z16, z19, z22⟩ : S23), z25, z28, z31⟩ : S25), z34⟩ : S37)).trans h
theorem cadastrelaw23_EvalLets_cok {ρ : Type} (k : Nat) : COK (cadastrelaw23_EvalLets_cfg (ρ := ρ) k) (cadastrelaw23_EvalLets_G k) cadastrelaw23_EvalLets_code :=
  cok_of (tl := [(2, cadastrelaw23_EvalLets_l2_s k)]) (tj := [(14, cadastrelaw23_EvalLets_j14_s k), (4, cadastrelaw23_EvalLets_j4_s k)]) (tb := []) rfl rfl rfl (all_nth 1 (by kernel_rfl) ⟨iter_case (by kernel_rfl) rfl (cadastrelaw23_EvalLets_l2_ok0 k), trivial⟩) (all_nth 2 (by kernel_rfl) ⟨join_case (by kernel_rfl) rfl (cadastrelaw23_EvalLets_j14_ok1 k), join_case (by kernel_rfl) rfl (cadastrelaw23_EvalLets_j4_ok0 k), trivial⟩) (fun p hp => by cases hp)
noncomputable def cadastrelaw23_EvalLets_enc (r : Bool) : AV UU := .pv (.bool r)
noncomputable def cadastrelaw23_EvalLets_dec (v : AV UU) (_ : List (List (AV UU))) : Option Bool :=
asB v fun r0 =>
some r0
theorem cadastrelaw23_EvalLets_dec_enc (v : AV UU) (b : List (List (AV UU))) (r : Bool) (h : cadastrelaw23_EvalLets_dec v b = some r) : v = cadastrelaw23_EvalLets_enc r := by
  unfold cadastrelaw23_EvalLets_dec at h
  replace h := asB_inv h; obtain ⟨r0, rfl, h⟩ := h
  cases h
  rfl
theorem cadastrelaw23_EvalLets_eq (k : Nat) (l0 : List S37) : bodyK UX (cadastrelaw23_EvalLets_cfg k) (cadastrelaw23_EvalLets_G k) Tryd.f5 [.pv (.typ (.l37 l0))] [] cadastrelaw23_EvalLets_dec = cadastrelaw23_EvalLets k l0 := by kernel_rfl
theorem cadastrelaw23_EvalLets_con (k : Nat) (l0 : List S37) (r : Bool) (h : cadastrelaw23_EvalLets k l0 = some r) : Con (X := UX) Tryd.prog 5 [.pv (.typ (.l37 l0))] [] (cadastrelaw23_EvalLets_enc r) [] :=
  con_of_body xok tok Tryd.func5 cadastrelaw23_EvalLets_body (cadastrelaw23_EvalLets_gok k) rfl (cadastrelaw23_EvalLets_cok k) (of_decide_eq_true (by kernel_rfl)) cadastrelaw23_EvalLets_dec_enc ((cadastrelaw23_EvalLets_eq k l0).trans h)
noncomputable def cadastrelaw23_EvalLets_an {ρ : Type} (k : Nat) : An UX ρ := fun args bx K =>
popA args fun v1 a2 =>
as_l37 v1 fun l0 =>
popN a2 <|
popN bx <|
(cadastrelaw23_EvalLets k l0).bind fun r => K (cadastrelaw23_EvalLets_enc r) []
theorem cadastrelaw23_EvalLets_ok {ρ : Type} (k : Nat) : AnsOK Tryd.prog 5 (cadastrelaw23_EvalLets_an (ρ := ρ) k) := by
  intro args bx K r h
  unfold cadastrelaw23_EvalLets_an at h
  replace h := popA_inv h; obtain ⟨v1, a2, rfl, h⟩ := h
  replace h := as_l37_inv h; obtain ⟨l0, rfl, h⟩ := h
  replace h := popN_inv h; obtain ⟨rfl, h⟩ := h
  replace h := popN_inv h; obtain ⟨rfl, h⟩ := h
  replace h := bind_inv h
  obtain ⟨x, hx, h⟩ := h
  exact ⟨there_of Tryd.func5 (by kernel_rfl) cadastrelaw23_EvalLets_body, _, _, h, cadastrelaw23_EvalLets_con k l0 x hx⟩
end Go.Proofs.YtnoeedkbadoogaaDoor.E
