/-
  What the program's functions answer: the printed functions' answers.
-/
import Derived.Test.YtdfmfpbdggefpaaDoorDG4
namespace Go.Proofs.YtdfmfpbdggefpaaDoor.D
open Go Go.AX
/-! cadastre/cadastrelaw4.ArithConcats -/
noncomputable def cadastrelaw4_ArithConcats_code : Code := match Tryd.f6.body with | some c => c | none => .skip
theorem cadastrelaw4_ArithConcats_body : Tryd.f6.body = some cadastrelaw4_ArithConcats_code := by kernel_rfl
noncomputable def cadastrelaw4_ArithConcats_G {ρ : Type} (k : Nat) : Ans UX ρ := gk 18 (arith_Concat_an k) (gk 19 (cadastrelaw4_num_an k) (gk 17 (arith_Text_an k) (gk 20 (arith_Length_an k) (gk 21 (cadastrelaw4_wakes_an k) (gnil)))))
theorem cadastrelaw4_ArithConcats_gok {ρ : Type} (k : Nat) : GOK Tryd.prog (cadastrelaw4_ArithConcats_G (ρ := ρ) k) := gok_cons (arith_Concat_ok k) (gok_cons (cadastrelaw4_num_ok k) (gok_cons (arith_Text_ok k) (gok_cons (arith_Length_ok k) (gok_cons (cadastrelaw4_wakes_ok k) (gok_nil)))))
noncomputable def cadastrelaw4_ArithConcats_j7_s {ρ : Type} (k : Nat) : Run UX ρ := fun s K =>
popS 0 s.env fun v1 e2 =>
as_l45 v1 fun l0 =>
popS 3 e2 fun v3 e4 =>
asI .i64 v3 fun i3 =>
popS 4 e4 fun v5 e6 =>
asP 4 0 v5 <|
popS 5 e6 fun v7 e8 =>
asP 5 0 v7 <|
popS 6 e8 fun v9 e10 =>
asP 6 0 v9 <|
popN e10 <|
popB 4 s.hp fun c11 e12 =>
popA c11 fun v13 c14 =>
asI .i64 v13 fun z15 =>
popA c14 fun v16 c17 =>
asI .i64 v16 fun z18 =>
popA c17 fun v19 c20 =>
asS v19 fun z21 =>
popN c20 <|
popB 5 e12 fun c22 e23 =>
popA c22 fun v24 c25 =>
asI .i64 v24 fun z26 =>
popA c25 fun v27 c28 =>
asI .i64 v27 fun z29 =>
popA c28 fun v30 c31 =>
asS v30 fun z32 =>
popN c31 <|
popB 6 e23 fun c33 e34 =>
popA c33 fun v35 c36 =>
asI .i64 v35 fun z37 =>
popA c36 fun v38 c39 =>
asI .i64 v38 fun z40 =>
popA c39 fun v41 c42 =>
asS v41 fun z43 =>
popN c42 <|
popN e34 <|
cadastrelaw4_ArithConcats_j7 k (fun t2 => K .ret ⟨[(2, .pv (.bool t2))], []⟩) (fun l0 i3 => K .nxt ⟨[(0, .pv (.typ (.l45 l0))), (3, .pv (.int .i64 i3))], []⟩) l0 i3 (⟨z15, z18, z21⟩ : S23) (⟨z26, z29, z32⟩ : S23) (⟨z37, z40, z43⟩ : S23)
noncomputable def cadastrelaw4_ArithConcats_j4_s {ρ : Type} (k : Nat) : Run UX ρ := fun s K =>
popS 0 s.env fun v1 e2 =>
as_l45 v1 fun l0 =>
popS 3 e2 fun v3 e4 =>
asI .i64 v3 fun i3 =>
popN e4 <|
popN s.hp <|
cadastrelaw4_ArithConcats_j4 k (fun l0 i3 => K .nxt ⟨[(0, .pv (.typ (.l45 l0))), (3, .pv (.int .i64 i3))], []⟩) (fun t2 => K .ret ⟨[(2, .pv (.bool t2))], []⟩) l0 i3
noncomputable def cadastrelaw4_ArithConcats_l2_s {ρ : Type} (k : Nat) : Run UX ρ := fun s K =>
popS 0 s.env fun v1 e2 =>
as_l45 v1 fun l0 =>
popS 3 e2 fun v3 e4 =>
asI .i64 v3 fun i3 =>
popN e4 <|
popN s.hp <|
cadastrelaw4_ArithConcats_l2 k (fun t2 => K .ret ⟨[(2, .pv (.bool t2))], []⟩) (K (.exit 0) ⟨[], []⟩) k l0 i3
noncomputable def cadastrelaw4_ArithConcats_cfg {ρ : Type} (k : Nat) : Cfg UX ρ where
  live i := (assoc [(0, [0]), (1, [0]), (2, [0, 3]), (3, [0, 3]), (4, [0, 3]), (5, [0, 3, 4, 5]), (6, [0, 3, 4, 5, 6, 7]), (7, [0, 3, 4, 5, 6]), (8, [0, 3, 4, 5, 6, 8, 9]), (9, [0, 3, 4, 5, 6, 8, 9, 10, 11]), (10, [0, 3, 4, 5, 6, 8, 9, 10, 11, 12, 13]), (11, [0, 3, 5, 6, 8, 9, 10, 11, 12, 13, 14, 15]), (12, [0, 3, 6, 8, 9, 10, 11, 12, 13, 14, 15, 16, 17]), (13, [0, 3, 6, 8, 9, 10, 11, 12, 13, 14, 15, 16, 17, 18, 19]), (14, []), (15, [])] i).getD []
  boxes i := (assoc [(0, []), (1, []), (2, []), (3, []), (4, []), (5, [4, 5]), (6, [4, 5, 6]), (7, [4, 5, 6]), (8, [4, 5, 6, 8]), (9, [4, 5, 6, 8, 10]), (10, [4, 5, 6, 8, 10, 12]), (11, [5, 6, 8, 10, 12, 14]), (12, [6, 8, 10, 12, 14, 16]), (13, [6, 8, 10, 12, 14, 16, 18]), (14, []), (15, [])] i).getD []
  tk i := (assoc [] i).getD []
  n := 139
  labelR l := (assoc [] l).getD 0
  loops := assoc [(2, cadastrelaw4_ArithConcats_l2_s k)]
  labels := assoc []
  joins := assoc [(7, cadastrelaw4_ArithConcats_j7_s k), (4, cadastrelaw4_ArithConcats_j4_s k)]
  xl i e := match e with
    | .nxt => assoc [(7, ([0, 3], [])), (4, ([0, 3], []))] i
    | .ret => assoc [(7, ([2], [])), (4, ([2], [])), (2, ([2], []))] i
    | .exit j => (assoc [(2, [(0, ([], []))])] i).bind fun l => assoc l j
    | .goto j => (assoc [] i).bind fun l => assoc l j
noncomputable def cadastrelaw4_ArithConcats_L : List Code := selI [2] (loopsOf cadastrelaw4_ArithConcats_code)
noncomputable def cadastrelaw4_ArithConcats_J : List Code := selI [7, 4] (joinsOf cadastrelaw4_ArithConcats_code)
noncomputable def cadastrelaw4_ArithConcats_S : List Code := scopesOf cadastrelaw4_ArithConcats_code
theorem cadastrelaw4_ArithConcats_l2_eq0 {ρ : Type} (k : Nat) (K : Ex → St UU → Option ρ) : ∀ (n : Nat) (v : (List S45) × Int), iterK UX (fun s => s.at (cadastrelaw4_ArithConcats_cfg (ρ := ρ) k).live (cadastrelaw4_ArithConcats_cfg (ρ := ρ) k).boxes (some 2)) (exec UX (cadastrelaw4_ArithConcats_cfg k) (cadastrelaw4_ArithConcats_G k) (cadastrelaw4_ArithConcats_L.getD 0 .skip)) n ⟨[(0, .pv (.typ (.l45 v.1))), (3, .pv (.int .i64 v.2))], []⟩ (nrmK UX (cadastrelaw4_ArithConcats_cfg k) 2 K) = cadastrelaw4_ArithConcats_l2 k (fun t2 => K .ret ⟨[(2, .pv (.bool t2))], []⟩) (K (.exit 0) ⟨[], []⟩) n v.1 v.2 :=
  iter_rec (X := UX) (fun v => ⟨[(0, .pv (.typ (.l45 v.1))), (3, .pv (.int .i64 v.2))], []⟩) (fun rec v => cadastrelaw4_ArithConcats_l2_b k (fun t2 => K .ret ⟨[(2, .pv (.bool t2))], []⟩) (K (.exit 0) ⟨[], []⟩) (fun l0 i3 => rec (l0, i3)) v.1 v.2) (fun n v => cadastrelaw4_ArithConcats_l2 k (fun t2 => K .ret ⟨[(2, .pv (.bool t2))], []⟩) (K (.exit 0) ⟨[], []⟩) n v.1 v.2) (fun n v => by kernel_rfl) (fun _ => rfl) (fun _ _ => rfl)
theorem cadastrelaw4_ArithConcats_l2_ok0 {ρ : Type} (k : Nat) : IterOK UX (cadastrelaw4_ArithConcats_cfg (ρ := ρ) k) (cadastrelaw4_ArithConcats_G k) (cadastrelaw4_ArithConcats_L.getD 0 .skip) 2 (cadastrelaw4_ArithConcats_l2_s k) := by
  intro s K r h
  obtain ⟨env, hp⟩ := s
  unfold cadastrelaw4_ArithConcats_l2_s at h
  replace h := popS_inv h; obtain ⟨v1, e2, rfl, h⟩ := h
  replace h := as_l45_inv h; obtain ⟨l0, rfl, h⟩ := h
  replace h := popS_inv h; obtain ⟨v3, e4, rfl, h⟩ := h
  replace h := asI_inv h; obtain ⟨i3, rfl, h⟩ := h
  replace h := popN_inv h; obtain ⟨rfl, h⟩ := h
  replace h := popN_inv h; obtain ⟨rfl, h⟩ := h
  exact ⟨k, (cadastrelaw4_ArithConcats_l2_eq0 k K k (l0, i3)).trans h⟩
theorem cadastrelaw4_ArithConcats_j4_eq0 {ρ : Type} (k : Nat) (K : Ex → St UU → Option ρ) (l0 : List S45) (i3 : Int) : exec UX (cadastrelaw4_ArithConcats_cfg k) (cadastrelaw4_ArithConcats_G k) (cadastrelaw4_ArithConcats_J.getD 0 .skip) ⟨[(0, .pv (.typ (.l45 l0))), (3, .pv (.int .i64 i3))], []⟩ (nrmK UX (cadastrelaw4_ArithConcats_cfg k) 4 K) = cadastrelaw4_ArithConcats_j4 k (fun l0 i3 => K .nxt ⟨[(0, .pv (.typ (.l45 l0))), (3, .pv (.int .i64 i3))], []⟩) (fun t2 => K .ret ⟨[(2, .pv (.bool t2))], []⟩) l0 i3 := by kernel_rfl
theorem cadastrelaw4_ArithConcats_j4_ok0 {ρ : Type} (k : Nat) : JoinOK UX (cadastrelaw4_ArithConcats_cfg (ρ := ρ) k) (cadastrelaw4_ArithConcats_G k) (cadastrelaw4_ArithConcats_J.getD 0 .skip) 4 (cadastrelaw4_ArithConcats_j4_s k) := by
  intro s K r h
  obtain ⟨env, hp⟩ := s
  unfold cadastrelaw4_ArithConcats_j4_s at h
  replace h := popS_inv h; obtain ⟨v1, e2, rfl, h⟩ := h
  replace h := as_l45_inv h; obtain ⟨l0, rfl, h⟩ := h
  replace h := popS_inv h; obtain ⟨v3, e4, rfl, h⟩ := h
  replace h := asI_inv h; obtain ⟨i3, rfl, h⟩ := h
  replace h := popN_inv h; obtain ⟨rfl, h⟩ := h
  replace h := popN_inv h; obtain ⟨rfl, h⟩ := h
  exact (cadastrelaw4_ArithConcats_j4_eq0 k K l0 i3).trans h
theorem cadastrelaw4_ArithConcats_j7_eq1 {ρ : Type} (k : Nat) (K : Ex → St UU → Option ρ) (l0 : List S45) (i3 : Int) (a4 : S23) (b5 : S23) (c6 : S23) : exec UX (cadastrelaw4_ArithConcats_cfg k) (cadastrelaw4_ArithConcats_G k) (cadastrelaw4_ArithConcats_J.getD 1 .skip) ⟨[(0, .pv (.typ (.l45 l0))), (3, .pv (.int .i64 i3)), (4, .ptr 4 0), (5, .ptr 5 0), (6, .ptr 6 0)], [(4, [.pv (.int .i64 a4.f0), .pv (.int .i64 a4.f1), .pv (.str a4.f2)]), (5, [.pv (.int .i64 b5.f0), .pv (.int .i64 b5.f1), .pv (.str b5.f2)]), (6, [.pv (.int .i64 c6.f0), .pv (.int .i64 c6.f1), .pv (.str c6.f2)])]⟩ (nrmK UX (cadastrelaw4_ArithConcats_cfg k) 7 K) = cadastrelaw4_ArithConcats_j7 k (fun t2 => K .ret ⟨[(2, .pv (.bool t2))], []⟩) (fun l0 i3 => K .nxt ⟨[(0, .pv (.typ (.l45 l0))), (3, .pv (.int .i64 i3))], []⟩) l0 i3 a4 b5 c6 := by kernel_rfl
theorem cadastrelaw4_ArithConcats_j7_ok1 {ρ : Type} (k : Nat) : JoinOK UX (cadastrelaw4_ArithConcats_cfg (ρ := ρ) k) (cadastrelaw4_ArithConcats_G k) (cadastrelaw4_ArithConcats_J.getD 1 .skip) 7 (cadastrelaw4_ArithConcats_j7_s k) := by
  intro s K r h
  obtain ⟨env, hp⟩ := s
  unfold cadastrelaw4_ArithConcats_j7_s at h
  replace h := popS_inv h; obtain ⟨v1, e2, rfl, h⟩ := h
  replace h := as_l45_inv h; obtain ⟨l0, rfl, h⟩ := h
  replace h := popS_inv h; obtain ⟨v3, e4, rfl, h⟩ := h
  replace h := asI_inv h; obtain ⟨i3, rfl, h⟩ := h
  replace h := popS_inv h; obtain ⟨v5, e6, rfl, h⟩ := h
  replace h := asP_inv h; obtain ⟨rfl, h⟩ := h
  replace h := popS_inv h; obtain ⟨v7, e8, rfl, h⟩ := h
  replace h := asP_inv h; obtain ⟨rfl, h⟩ := h
  replace h := popS_inv h; obtain ⟨v9, e10, rfl, h⟩ := h
  replace h := asP_inv h; obtain ⟨rfl, h⟩ := h
  replace h := popN_inv h; obtain ⟨rfl, h⟩ := h
  replace h := popB_inv h; obtain ⟨c11, e12, rfl, h⟩ := h
  replace h := popA_inv h; obtain ⟨v13, c14, rfl, h⟩ := h
  replace h := asI_inv h; obtain ⟨z15, rfl, h⟩ := h
  replace h := popA_inv h; obtain ⟨v16, c17, rfl, h⟩ := h
  replace h := asI_inv h; obtain ⟨z18, rfl, h⟩ := h
  replace h := popA_inv h; obtain ⟨v19, c20, rfl, h⟩ := h
  replace h := asS_inv h; obtain ⟨z21, rfl, h⟩ := h
  replace h := popN_inv h; obtain ⟨rfl, h⟩ := h
  replace h := popB_inv h; obtain ⟨c22, e23, rfl, h⟩ := h
  replace h := popA_inv h; obtain ⟨v24, c25, rfl, h⟩ := h
  replace h := asI_inv h; obtain ⟨z26, rfl, h⟩ := h
  replace h := popA_inv h; obtain ⟨v27, c28, rfl, h⟩ := h
  replace h := asI_inv h; obtain ⟨z29, rfl, h⟩ := h
  replace h := popA_inv h; obtain ⟨v30, c31, rfl, h⟩ := h
  replace h := asS_inv h; obtain ⟨z32, rfl, h⟩ := h
  replace h := popN_inv h; obtain ⟨rfl, h⟩ := h
  replace h := popB_inv h; obtain ⟨c33, e34, rfl, h⟩ := h
  replace h := popA_inv h; obtain ⟨v35, c36, rfl, h⟩ := h
  replace h := asI_inv h; obtain ⟨z37, rfl, h⟩ := h
  replace h := popA_inv h; obtain ⟨v38, c39, rfl, h⟩ := h
  replace h := asI_inv h; obtain ⟨z40, rfl, h⟩ := h
  replace h := popA_inv h; obtain ⟨v41, c42, rfl, h⟩ := h
  replace h := asS_inv h; obtain ⟨z43, rfl, h⟩ := h
  replace h := popN_inv h; obtain ⟨rfl, h⟩ := h
  replace h := popN_inv h; obtain ⟨rfl, h⟩ := h
  exact (cadastrelaw4_ArithConcats_j7_eq1 k K l0 i3 (⟨z15, z18, z21⟩ : S23) (⟨z26, z29, z32⟩ : S23) (⟨z37, z40, z43⟩ : S23)).trans h
theorem cadastrelaw4_ArithConcats_cok {ρ : Type} (k : Nat) : COK (cadastrelaw4_ArithConcats_cfg (ρ := ρ) k) (cadastrelaw4_ArithConcats_G k) cadastrelaw4_ArithConcats_code :=
  cok_of (tl := [(2, cadastrelaw4_ArithConcats_l2_s k)]) (tj := [(7, cadastrelaw4_ArithConcats_j7_s k), (4, cadastrelaw4_ArithConcats_j4_s k)]) (tb := []) rfl rfl rfl (all_nth 1 (by kernel_rfl) ⟨iter_case (by kernel_rfl) rfl (cadastrelaw4_ArithConcats_l2_ok0 k), trivial⟩) (all_nth 2 (by kernel_rfl) ⟨join_case (by kernel_rfl) rfl (cadastrelaw4_ArithConcats_j7_ok1 k), join_case (by kernel_rfl) rfl (cadastrelaw4_ArithConcats_j4_ok0 k), trivial⟩) (fun p hp => by cases hp)
noncomputable def cadastrelaw4_ArithConcats_enc (r : Bool) : AV UU := .pv (.bool r)
noncomputable def cadastrelaw4_ArithConcats_dec (v : AV UU) (_ : List (List (AV UU))) : Option Bool :=
asB v fun r0 =>
some r0
theorem cadastrelaw4_ArithConcats_dec_enc (v : AV UU) (b : List (List (AV UU))) (r : Bool) (h : cadastrelaw4_ArithConcats_dec v b = some r) : v = cadastrelaw4_ArithConcats_enc r := by
  unfold cadastrelaw4_ArithConcats_dec at h
  replace h := asB_inv h; obtain ⟨r0, rfl, h⟩ := h
  cases h
  rfl
theorem cadastrelaw4_ArithConcats_eq (k : Nat) (l0 : List S45) : bodyK UX (cadastrelaw4_ArithConcats_cfg k) (cadastrelaw4_ArithConcats_G k) Tryd.f6 [.pv (.typ (.l45 l0))] [] cadastrelaw4_ArithConcats_dec = cadastrelaw4_ArithConcats k l0 := by kernel_rfl
theorem cadastrelaw4_ArithConcats_con (k : Nat) (l0 : List S45) (r : Bool) (h : cadastrelaw4_ArithConcats k l0 = some r) : Con (X := UX) Tryd.prog 6 [.pv (.typ (.l45 l0))] [] (cadastrelaw4_ArithConcats_enc r) [] :=
  con_of_body xok tok Tryd.func6 cadastrelaw4_ArithConcats_body (cadastrelaw4_ArithConcats_gok k) rfl (cadastrelaw4_ArithConcats_cok k) (of_decide_eq_true (by kernel_rfl)) cadastrelaw4_ArithConcats_dec_enc ((cadastrelaw4_ArithConcats_eq k l0).trans h)
noncomputable def cadastrelaw4_ArithConcats_an {ρ : Type} (k : Nat) : An UX ρ := fun args bx K =>
popA args fun v1 a2 =>
as_l45 v1 fun l0 =>
popN a2 <|
popN bx <|
(cadastrelaw4_ArithConcats k l0).bind fun r => K (cadastrelaw4_ArithConcats_enc r) []
theorem cadastrelaw4_ArithConcats_ok {ρ : Type} (k : Nat) : AnsOK Tryd.prog 6 (cadastrelaw4_ArithConcats_an (ρ := ρ) k) := by
  intro args bx K r h
  unfold cadastrelaw4_ArithConcats_an at h
  replace h := popA_inv h; obtain ⟨v1, a2, rfl, h⟩ := h
  replace h := as_l45_inv h; obtain ⟨l0, rfl, h⟩ := h
  replace h := popN_inv h; obtain ⟨rfl, h⟩ := h
  replace h := popN_inv h; obtain ⟨rfl, h⟩ := h
  replace h := bind_inv h
  obtain ⟨x, hx, h⟩ := h
  exact ⟨there_of Tryd.func6 (by kernel_rfl) cadastrelaw4_ArithConcats_body, _, _, h, cadastrelaw4_ArithConcats_con k l0 x hx⟩

/-! cadastre/cadastreref4.Length -/
noncomputable def cadastreref4_Length_code : Code := match Tryd.f23.body with | some c => c | none => .skip
theorem cadastreref4_Length_body : Tryd.f23.body = some cadastreref4_Length_code := by kernel_rfl
noncomputable def cadastreref4_Length_G {ρ : Type} (k : Nat) : Ans UX ρ := gk 22 (cadastreref4_Text_an k) (gk 29 (cadastreref2_Int_an k) (gnil))
theorem cadastreref4_Length_gok {ρ : Type} (k : Nat) : GOK Tryd.prog (cadastreref4_Length_G (ρ := ρ) k) := gok_cons (cadastreref4_Text_ok k) (gok_cons (cadastreref2_Int_ok k) (gok_nil))
noncomputable def cadastreref4_Length_cfg {ρ : Type} (k : Nat) : Cfg UX ρ where
  live i := (assoc [(0, [0]), (1, [1, 2]), (2, [1, 2]), (3, [1, 2])] i).getD []
  boxes i := (assoc [(0, []), (1, [1, 2]), (2, [1, 2]), (3, [1, 2])] i).getD []
  tk i := (assoc [] i).getD []
  n := 12
  labelR l := (assoc [] l).getD 0
  loops := assoc []
  labels := assoc []
  joins := assoc []
  xl i e := match e with
    | .nxt => assoc [] i
    | .ret => assoc [] i
    | .exit j => (assoc [] i).bind fun l => assoc l j
    | .goto j => (assoc [] i).bind fun l => assoc l j
noncomputable def cadastreref4_Length_L : List Code := selI [] (loopsOf cadastreref4_Length_code)
noncomputable def cadastreref4_Length_J : List Code := selI [] (joinsOf cadastreref4_Length_code)
noncomputable def cadastreref4_Length_S : List Code := scopesOf cadastreref4_Length_code
theorem cadastreref4_Length_cok {ρ : Type} (k : Nat) : COK (cadastreref4_Length_cfg (ρ := ρ) k) (cadastreref4_Length_G k) cadastreref4_Length_code :=
  cok_of (tl := []) (tj := []) (tb := []) rfl rfl rfl (nil_all (by kernel_rfl)) (nil_all (by kernel_rfl)) (fun p hp => by cases hp)
noncomputable def cadastreref4_Length_enc (r : S23) : AV UU := .pv (.typ (.s23 r))
noncomputable def cadastreref4_Length_dec (v : AV UU) (_ : List (List (AV UU))) : Option S23 :=
as_s23 v fun r0 =>
some r0
theorem cadastreref4_Length_dec_enc (v : AV UU) (b : List (List (AV UU))) (r : S23) (h : cadastreref4_Length_dec v b = some r) : v = cadastreref4_Length_enc r := by
  unfold cadastreref4_Length_dec at h
  replace h := as_s23_inv h; obtain ⟨r0, rfl, h⟩ := h
  cases h
  rfl
theorem cadastreref4_Length_eq (k : Nat) (v0 : S23) : bodyK UX (cadastreref4_Length_cfg k) (cadastreref4_Length_G k) Tryd.f23 [.pv (.typ (.s23 v0))] [] cadastreref4_Length_dec = cadastreref4_Length k v0 := by kernel_rfl
theorem cadastreref4_Length_con (k : Nat) (v0 : S23) (r : S23) (h : cadastreref4_Length k v0 = some r) : Con (X := UX) Tryd.prog 23 [.pv (.typ (.s23 v0))] [] (cadastreref4_Length_enc r) [] :=
  con_of_body xok tok Tryd.func23 cadastreref4_Length_body (cadastreref4_Length_gok k) rfl (cadastreref4_Length_cok k) (of_decide_eq_true (by kernel_rfl)) cadastreref4_Length_dec_enc ((cadastreref4_Length_eq k v0).trans h)
noncomputable def cadastreref4_Length_an {ρ : Type} (k : Nat) : An UX ρ := fun args bx K =>
popA args fun v1 a2 =>
as_s23 v1 fun v0 =>
popN a2 <|
popN bx <|
(cadastreref4_Length k v0).bind fun r => K (cadastreref4_Length_enc r) []
theorem cadastreref4_Length_ok {ρ : Type} (k : Nat) : AnsOK Tryd.prog 23 (cadastreref4_Length_an (ρ := ρ) k) := by
  intro args bx K r h
  unfold cadastreref4_Length_an at h
  replace h := popA_inv h; obtain ⟨v1, a2, rfl, h⟩ := h
  replace h := as_s23_inv h; obtain ⟨v0, rfl, h⟩ := h
  replace h := popN_inv h; obtain ⟨rfl, h⟩ := h
  replace h := popN_inv h; obtain ⟨rfl, h⟩ := h
  replace h := bind_inv h
  obtain ⟨x, hx, h⟩ := h
  exact ⟨there_of Tryd.func23 (by kernel_rfl) cadastreref4_Length_body, _, _, h, cadastreref4_Length_con k v0 x hx⟩

/-! cadastre/cadastreref4.Typeof -/
noncomputable def cadastreref4_Typeof_code : Code := match Tryd.f24.body with | some c => c | none => .skip
theorem cadastreref4_Typeof_body : Tryd.f24.body = some cadastreref4_Typeof_code := by kernel_rfl
noncomputable def cadastreref4_Typeof_G {ρ : Type} (k : Nat) : Ans UX ρ := gk 40 (cadastreref4_text_an k) (gnil)
theorem cadastreref4_Typeof_gok {ρ : Type} (k : Nat) : GOK Tryd.prog (cadastreref4_Typeof_G (ρ := ρ) k) := gok_cons (cadastreref4_text_ok k) (gok_nil)
noncomputable def cadastreref4_Typeof_cfg {ρ : Type} (k : Nat) : Cfg UX ρ where
  live i := (assoc [(0, [0]), (1, [1, 2]), (2, [2, 4]), (3, [2]), (4, [2, 4]), (5, [2]), (6, [2, 4]), (7, [2]), (8, [2])] i).getD []
  boxes i := (assoc [(0, []), (1, [1, 2]), (2, [2]), (3, [2]), (4, [2]), (5, [2]), (6, [2]), (7, [2]), (8, [2])] i).getD []
  tk i := (assoc [] i).getD []
  n := 15
  labelR l := (assoc [] l).getD 0
  loops := assoc []
  labels := assoc []
  joins := assoc []
  xl i e := match e with
    | .nxt => assoc [] i
    | .ret => assoc [] i
    | .exit j => (assoc [] i).bind fun l => assoc l j
    | .goto j => (assoc [] i).bind fun l => assoc l j
noncomputable def cadastreref4_Typeof_L : List Code := selI [] (loopsOf cadastreref4_Typeof_code)
noncomputable def cadastreref4_Typeof_J : List Code := selI [] (joinsOf cadastreref4_Typeof_code)
noncomputable def cadastreref4_Typeof_S : List Code := scopesOf cadastreref4_Typeof_code
theorem cadastreref4_Typeof_cok {ρ : Type} (k : Nat) : COK (cadastreref4_Typeof_cfg (ρ := ρ) k) (cadastreref4_Typeof_G k) cadastreref4_Typeof_code :=
  cok_of (tl := []) (tj := []) (tb := []) rfl rfl rfl (nil_all (by kernel_rfl)) (nil_all (by kernel_rfl)) (fun p hp => by cases hp)
noncomputable def cadastreref4_Typeof_enc (r : S23) : AV UU := .pv (.typ (.s23 r))
noncomputable def cadastreref4_Typeof_dec (v : AV UU) (_ : List (List (AV UU))) : Option S23 :=
as_s23 v fun r0 =>
some r0
theorem cadastreref4_Typeof_dec_enc (v : AV UU) (b : List (List (AV UU))) (r : S23) (h : cadastreref4_Typeof_dec v b = some r) : v = cadastreref4_Typeof_enc r := by
  unfold cadastreref4_Typeof_dec at h
  replace h := as_s23_inv h; obtain ⟨r0, rfl, h⟩ := h
  cases h
  rfl
theorem cadastreref4_Typeof_eq (k : Nat) (v0 : S23) : bodyK UX (cadastreref4_Typeof_cfg k) (cadastreref4_Typeof_G k) Tryd.f24 [.pv (.typ (.s23 v0))] [] cadastreref4_Typeof_dec = cadastreref4_Typeof k v0 := by kernel_rfl
theorem cadastreref4_Typeof_con (k : Nat) (v0 : S23) (r : S23) (h : cadastreref4_Typeof k v0 = some r) : Con (X := UX) Tryd.prog 24 [.pv (.typ (.s23 v0))] [] (cadastreref4_Typeof_enc r) [] :=
  con_of_body xok tok Tryd.func24 cadastreref4_Typeof_body (cadastreref4_Typeof_gok k) rfl (cadastreref4_Typeof_cok k) (of_decide_eq_true (by kernel_rfl)) cadastreref4_Typeof_dec_enc ((cadastreref4_Typeof_eq k v0).trans h)
noncomputable def cadastreref4_Typeof_an {ρ : Type} (k : Nat) : An UX ρ := fun args bx K =>
popA args fun v1 a2 =>
as_s23 v1 fun v0 =>
popN a2 <|
popN bx <|
(cadastreref4_Typeof k v0).bind fun r => K (cadastreref4_Typeof_enc r) []
theorem cadastreref4_Typeof_ok {ρ : Type} (k : Nat) : AnsOK Tryd.prog 24 (cadastreref4_Typeof_an (ρ := ρ) k) := by
  intro args bx K r h
  unfold cadastreref4_Typeof_an at h
  replace h := popA_inv h; obtain ⟨v1, a2, rfl, h⟩ := h
  replace h := as_s23_inv h; obtain ⟨v0, rfl, h⟩ := h
  replace h := popN_inv h; obtain ⟨rfl, h⟩ := h
  replace h := popN_inv h; obtain ⟨rfl, h⟩ := h
  replace h := bind_inv h
  obtain ⟨x, hx, h⟩ := h
  exact ⟨there_of Tryd.func24 (by kernel_rfl) cadastreref4_Typeof_body, _, _, h, cadastreref4_Typeof_con k v0 x hx⟩

/-! cadastre/cadastreref4.Concat -/
noncomputable def cadastreref4_Concat_code : Code := match Tryd.f25.body with | some c => c | none => .skip
theorem cadastreref4_Concat_body : Tryd.f25.body = some cadastreref4_Concat_code := by kernel_rfl
noncomputable def cadastreref4_Concat_G {ρ : Type} (k : Nat) : Ans UX ρ := gk 22 (cadastreref4_Text_an k) (gk 40 (cadastreref4_text_an k) (gnil))
theorem cadastreref4_Concat_gok {ρ : Type} (k : Nat) : GOK Tryd.prog (cadastreref4_Concat_G (ρ := ρ) k) := gok_cons (cadastreref4_Text_ok k) (gok_cons (cadastreref4_text_ok k) (gok_nil))
noncomputable def cadastreref4_Concat_j5_s {ρ : Type} (k : Nat) : Run UX ρ := fun s K =>
popS 2 s.env fun v1 e2 =>
asP 2 0 v1 <|
popS 3 e2 fun v3 e4 =>
asP 3 0 v3 <|
popS 4 e4 fun v5 e6 =>
asP 4 0 v5 <|
popN e6 <|
popB 2 s.hp fun c7 e8 =>
popA c7 fun v9 c10 =>
asI .i64 v9 fun z11 =>
popA c10 fun v12 c13 =>
asI .i64 v12 fun z14 =>
popA c13 fun v15 c16 =>
asS v15 fun z17 =>
popN c16 <|
popB 3 e8 fun c18 e19 =>
popA c18 fun v20 c21 =>
asI .i64 v20 fun z22 =>
popA c21 fun v23 c24 =>
asI .i64 v23 fun z25 =>
popA c24 fun v26 c27 =>
asS v26 fun z28 =>
popN c27 <|
popB 4 e19 fun c29 e30 =>
popA c29 fun v31 c32 =>
asI .i64 v31 fun z33 =>
popA c32 fun v34 c35 =>
asI .i64 v34 fun z36 =>
popA c35 fun v37 c38 =>
asS v37 fun z39 =>
popN c38 <|
popN e30 <|
cadastreref4_Concat_j5 k (fun t5 t4 => K .ret ⟨[(4, .ptr 4 0), (5, .pv (.int .i64 t5))], [(4, [.pv (.int .i64 t4.f0), .pv (.int .i64 t4.f1), .pv (.str t4.f2)])]⟩) (⟨z11, z14, z17⟩ : S23) (⟨z22, z25, z28⟩ : S23) (⟨z33, z36, z39⟩ : S23)
noncomputable def cadastreref4_Concat_j3_s {ρ : Type} (k : Nat) : Run UX ρ := fun s K =>
popS 2 s.env fun v1 e2 =>
asP 2 0 v1 <|
popS 3 e2 fun v3 e4 =>
asP 3 0 v3 <|
popS 4 e4 fun v5 e6 =>
asP 4 0 v5 <|
popN e6 <|
popB 2 s.hp fun c7 e8 =>
popA c7 fun v9 c10 =>
asI .i64 v9 fun z11 =>
popA c10 fun v12 c13 =>
asI .i64 v12 fun z14 =>
popA c13 fun v15 c16 =>
asS v15 fun z17 =>
popN c16 <|
popB 3 e8 fun c18 e19 =>
popA c18 fun v20 c21 =>
asI .i64 v20 fun z22 =>
popA c21 fun v23 c24 =>
asI .i64 v23 fun z25 =>
popA c24 fun v26 c27 =>
asS v26 fun z28 =>
popN c27 <|
popB 4 e19 fun c29 e30 =>
popA c29 fun v31 c32 =>
asI .i64 v31 fun z33 =>
popA c32 fun v34 c35 =>
asI .i64 v34 fun z36 =>
popA c35 fun v37 c38 =>
asS v37 fun z39 =>
popN c38 <|
popN e30 <|
cadastreref4_Concat_j3 k (fun t5 t4 => K .ret ⟨[(4, .ptr 4 0), (5, .pv (.int .i64 t5))], [(4, [.pv (.int .i64 t4.f0), .pv (.int .i64 t4.f1), .pv (.str t4.f2)])]⟩) (⟨z11, z14, z17⟩ : S23) (⟨z22, z25, z28⟩ : S23) (⟨z33, z36, z39⟩ : S23)
noncomputable def cadastreref4_Concat_cfg {ρ : Type} (k : Nat) : Cfg UX ρ where
  live i := (assoc [(0, [0, 1]), (1, [2, 3, 4]), (2, [4]), (3, [2, 3, 4]), (4, [4]), (5, [2, 3, 4]), (6, [4, 6]), (7, [4]), (8, [4, 6])] i).getD []
  boxes i := (assoc [(0, []), (1, [2, 3, 4]), (2, [4]), (3, [2, 3, 4]), (4, [4]), (5, [2, 3, 4]), (6, [4]), (7, [4]), (8, [4])] i).getD []
  tk i := (assoc [] i).getD []
  n := 38
  labelR l := (assoc [] l).getD 0
  loops := assoc []
  labels := assoc []
  joins := assoc [(5, cadastreref4_Concat_j5_s k), (3, cadastreref4_Concat_j3_s k)]
  xl i e := match e with
    | .nxt => assoc [] i
    | .ret => assoc [(5, ([4, 5], [4])), (3, ([4, 5], [4]))] i
    | .exit j => (assoc [] i).bind fun l => assoc l j
    | .goto j => (assoc [] i).bind fun l => assoc l j
noncomputable def cadastreref4_Concat_L : List Code := selI [] (loopsOf cadastreref4_Concat_code)
noncomputable def cadastreref4_Concat_J : List Code := selI [5, 3] (joinsOf cadastreref4_Concat_code)
noncomputable def cadastreref4_Concat_S : List Code := scopesOf cadastreref4_Concat_code
theorem cadastreref4_Concat_j3_eq0 {ρ : Type} (k : Nat) (K : Ex → St UU → Option ρ) (a2 : S23) (b3 : S23) (t4 : S23) : exec UX (cadastreref4_Concat_cfg k) (cadastreref4_Concat_G k) (cadastreref4_Concat_J.getD 0 .skip) ⟨[(2, .ptr 2 0), (3, .ptr 3 0), (4, .ptr 4 0)], [(2, [.pv (.int .i64 a2.f0), .pv (.int .i64 a2.f1), .pv (.str a2.f2)]), (3, [.pv (.int .i64 b3.f0), .pv (.int .i64 b3.f1), .pv (.str b3.f2)]), (4, [.pv (.int .i64 t4.f0), .pv (.int .i64 t4.f1), .pv (.str t4.f2)])]⟩ (nrmK UX (cadastreref4_Concat_cfg k) 3 K) = cadastreref4_Concat_j3 k (fun t5 t4 => K .ret ⟨[(4, .ptr 4 0), (5, .pv (.int .i64 t5))], [(4, [.pv (.int .i64 t4.f0), .pv (.int .i64 t4.f1), .pv (.str t4.f2)])]⟩) a2 b3 t4 := by kernel_rfl
theorem cadastreref4_Concat_j3_ok0 {ρ : Type} (k : Nat) : JoinOK UX (cadastreref4_Concat_cfg (ρ := ρ) k) (cadastreref4_Concat_G k) (cadastreref4_Concat_J.getD 0 .skip) 3 (cadastreref4_Concat_j3_s k) := by
  intro s K r h
  obtain ⟨env, hp⟩ := s
  unfold cadastreref4_Concat_j3_s at h
  replace h := popS_inv h; obtain ⟨v1, e2, rfl, h⟩ := h
  replace h := asP_inv h; obtain ⟨rfl, h⟩ := h
  replace h := popS_inv h; obtain ⟨v3, e4, rfl, h⟩ := h
  replace h := asP_inv h; obtain ⟨rfl, h⟩ := h
  replace h := popS_inv h; obtain ⟨v5, e6, rfl, h⟩ := h
  replace h := asP_inv h; obtain ⟨rfl, h⟩ := h
  replace h := popN_inv h; obtain ⟨rfl, h⟩ := h
  replace h := popB_inv h; obtain ⟨c7, e8, rfl, h⟩ := h
  replace h := popA_inv h; obtain ⟨v9, c10, rfl, h⟩ := h
  replace h := asI_inv h; obtain ⟨z11, rfl, h⟩ := h
  replace h := popA_inv h; obtain ⟨v12, c13, rfl, h⟩ := h
  replace h := asI_inv h; obtain ⟨z14, rfl, h⟩ := h
  replace h := popA_inv h; obtain ⟨v15, c16, rfl, h⟩ := h
  replace h := asS_inv h; obtain ⟨z17, rfl, h⟩ := h
  replace h := popN_inv h; obtain ⟨rfl, h⟩ := h
  replace h := popB_inv h; obtain ⟨c18, e19, rfl, h⟩ := h
  replace h := popA_inv h; obtain ⟨v20, c21, rfl, h⟩ := h
  replace h := asI_inv h; obtain ⟨z22, rfl, h⟩ := h
  replace h := popA_inv h; obtain ⟨v23, c24, rfl, h⟩ := h
  replace h := asI_inv h; obtain ⟨z25, rfl, h⟩ := h
  replace h := popA_inv h; obtain ⟨v26, c27, rfl, h⟩ := h
  replace h := asS_inv h; obtain ⟨z28, rfl, h⟩ := h
  replace h := popN_inv h; obtain ⟨rfl, h⟩ := h
  replace h := popB_inv h; obtain ⟨c29, e30, rfl, h⟩ := h
  replace h := popA_inv h; obtain ⟨v31, c32, rfl, h⟩ := h
  replace h := asI_inv h; obtain ⟨z33, rfl, h⟩ := h
  replace h := popA_inv h; obtain ⟨v34, c35, rfl, h⟩ := h
  replace h := asI_inv h; obtain ⟨z36, rfl, h⟩ := h
  replace h := popA_inv h; obtain ⟨v37, c38, rfl, h⟩ := h
  replace h := asS_inv h; obtain ⟨z39, rfl, h⟩ := h
  replace h := popN_inv h; obtain ⟨rfl, h⟩ := h
  replace h := popN_inv h; obtain ⟨rfl, h⟩ := h
  exact (cadastreref4_Concat_j3_eq0 k K (⟨z11, z14, z17⟩ : S23) (⟨z22, z25, z28⟩ : S23) (⟨z33, z36, z39⟩ : S23)).trans h
theorem cadastreref4_Concat_j5_eq1 {ρ : Type} (k : Nat) (K : Ex → St UU → Option ρ) (a2 : S23) (b3 : S23) (t4 : S23) : exec UX (cadastreref4_Concat_cfg k) (cadastreref4_Concat_G k) (cadastreref4_Concat_J.getD 1 .skip) ⟨[(2, .ptr 2 0), (3, .ptr 3 0), (4, .ptr 4 0)], [(2, [.pv (.int .i64 a2.f0), .pv (.int .i64 a2.f1), .pv (.str a2.f2)]), (3, [.pv (.int .i64 b3.f0), .pv (.int .i64 b3.f1), .pv (.str b3.f2)]), (4, [.pv (.int .i64 t4.f0), .pv (.int .i64 t4.f1), .pv (.str t4.f2)])]⟩ (nrmK UX (cadastreref4_Concat_cfg k) 5 K) = cadastreref4_Concat_j5 k (fun t5 t4 => K .ret ⟨[(4, .ptr 4 0), (5, .pv (.int .i64 t5))], [(4, [.pv (.int .i64 t4.f0), .pv (.int .i64 t4.f1), .pv (.str t4.f2)])]⟩) a2 b3 t4 := by kernel_rfl
theorem cadastreref4_Concat_j5_ok1 {ρ : Type} (k : Nat) : JoinOK UX (cadastreref4_Concat_cfg (ρ := ρ) k) (cadastreref4_Concat_G k) (cadastreref4_Concat_J.getD 1 .skip) 5 (cadastreref4_Concat_j5_s k) := by
  intro s K r h
  obtain ⟨env, hp⟩ := s
  unfold cadastreref4_Concat_j5_s at h
  replace h := popS_inv h; obtain ⟨v1, e2, rfl, h⟩ := h
  replace h := asP_inv h; obtain ⟨rfl, h⟩ := h
  replace h := popS_inv h; obtain ⟨v3, e4, rfl, h⟩ := h
  replace h := asP_inv h; obtain ⟨rfl, h⟩ := h
  replace h := popS_inv h; obtain ⟨v5, e6, rfl, h⟩ := h
  replace h := asP_inv h; obtain ⟨rfl, h⟩ := h
  replace h := popN_inv h; obtain ⟨rfl, h⟩ := h
  replace h := popB_inv h; obtain ⟨c7, e8, rfl, h⟩ := h
  replace h := popA_inv h; obtain ⟨v9, c10, rfl, h⟩ := h
  replace h := asI_inv h; obtain ⟨z11, rfl, h⟩ := h
  replace h := popA_inv h; obtain ⟨v12, c13, rfl, h⟩ := h
  replace h := asI_inv h; obtain ⟨z14, rfl, h⟩ := h
  replace h := popA_inv h; obtain ⟨v15, c16, rfl, h⟩ := h
  replace h := asS_inv h; obtain ⟨z17, rfl, h⟩ := h
  replace h := popN_inv h; obtain ⟨rfl, h⟩ := h
  replace h := popB_inv h; obtain ⟨c18, e19, rfl, h⟩ := h
  replace h := popA_inv h; obtain ⟨v20, c21, rfl, h⟩ := h
  replace h := asI_inv h; obtain ⟨z22, rfl, h⟩ := h
  replace h := popA_inv h; obtain ⟨v23, c24, rfl, h⟩ := h
  replace h := asI_inv h; obtain ⟨z25, rfl, h⟩ := h
  replace h := popA_inv h; obtain ⟨v26, c27, rfl, h⟩ := h
  replace h := asS_inv h; obtain ⟨z28, rfl, h⟩ := h
  replace h := popN_inv h; obtain ⟨rfl, h⟩ := h
  replace h := popB_inv h; obtain ⟨c29, e30, rfl, h⟩ := h
  replace h := popA_inv h; obtain ⟨v31, c32, rfl, h⟩ := h
  replace h := asI_inv h; obtain ⟨z33, rfl, h⟩ := h
  replace h := popA_inv h; obtain ⟨v34, c35, rfl, h⟩ := h
  replace h := asI_inv h; obtain ⟨z36, rfl, h⟩ := h
  replace h := popA_inv h; obtain ⟨v37, c38, rfl, h⟩ := h
  replace h := asS_inv h; obtain ⟨z39, rfl, h⟩ := h
  replace h := popN_inv h; obtain ⟨rfl, h⟩ := h
  replace h := popN_inv h; obtain ⟨rfl, h⟩ := h
  exact (cadastreref4_Concat_j5_eq1 k K (⟨z11, z14, z17⟩ : S23) (⟨z22, z25, z28⟩ : S23) (⟨z33, z36, z39⟩ : S23)).trans h
theorem cadastreref4_Concat_cok {ρ : Type} (k : Nat) : COK (cadastreref4_Concat_cfg (ρ := ρ) k) (cadastreref4_Concat_G k) cadastreref4_Concat_code :=
  cok_of (tl := []) (tj := [(5, cadastreref4_Concat_j5_s k), (3, cadastreref4_Concat_j3_s k)]) (tb := []) rfl rfl rfl (nil_all (by kernel_rfl)) (all_nth 2 (by kernel_rfl) ⟨join_case (by kernel_rfl) rfl (cadastreref4_Concat_j5_ok1 k), join_case (by kernel_rfl) rfl (cadastreref4_Concat_j3_ok0 k), trivial⟩) (fun p hp => by cases hp)
noncomputable def cadastreref4_Concat_enc (r : S23 × Int) : AV UU := .pv (.tup [.typ (.s23 r.1), .int .i64 r.2])
noncomputable def cadastreref4_Concat_dec (v : AV UU) (_ : List (List (AV UU))) : Option (S23 × Int) :=
asT v fun q1 =>
popA q1 fun p2 q3 =>
as_s23 (.pv p2) fun r0 =>
popA q3 fun p4 q5 =>
asI .i64 (.pv p4) fun r1 =>
popN q5 <|
some (r0, r1)
theorem cadastreref4_Concat_dec_enc (v : AV UU) (b : List (List (AV UU))) (r : S23 × Int) (h : cadastreref4_Concat_dec v b = some r) : v = cadastreref4_Concat_enc r := by
  unfold cadastreref4_Concat_dec at h
  replace h := asT_inv h; obtain ⟨q1, rfl, h⟩ := h
  replace h := popA_inv h; obtain ⟨p2, q3, rfl, h⟩ := h
  replace h := as_s23_inv h; obtain ⟨r0, e, h⟩ := h; cases e
  replace h := popA_inv h; obtain ⟨p4, q5, rfl, h⟩ := h
  replace h := asI_inv h; obtain ⟨r1, e, h⟩ := h; cases e
  replace h := popN_inv h; obtain ⟨rfl, h⟩ := h
  cases h
  rfl
theorem cadastreref4_Concat_eq (k : Nat) (a0 : S23) (b1 : S23) : bodyK UX (cadastreref4_Concat_cfg k) (cadastreref4_Concat_G k) Tryd.f25 [.pv (.typ (.s23 a0)), .pv (.typ (.s23 b1))] [] cadastreref4_Concat_dec = cadastreref4_Concat k a0 b1 := by kernel_rfl
theorem cadastreref4_Concat_con (k : Nat) (a0 : S23) (b1 : S23) (r : S23 × Int) (h : cadastreref4_Concat k a0 b1 = some r) : Con (X := UX) Tryd.prog 25 [.pv (.typ (.s23 a0)), .pv (.typ (.s23 b1))] [] (cadastreref4_Concat_enc r) [] :=
  con_of_body xok tok Tryd.func25 cadastreref4_Concat_body (cadastreref4_Concat_gok k) rfl (cadastreref4_Concat_cok k) (of_decide_eq_true (by kernel_rfl)) cadastreref4_Concat_dec_enc ((cadastreref4_Concat_eq k a0 b1).trans h)
noncomputable def cadastreref4_Concat_an {ρ : Type} (k : Nat) : An UX ρ := fun args bx K =>
popA args fun v1 a2 =>
as_s23 v1 fun a0 =>
popA a2 fun v3 a4 =>
as_s23 v3 fun b1 =>
popN a4 <|
popN bx <|
(cadastreref4_Concat k a0 b1).bind fun r => K (cadastreref4_Concat_enc r) []
theorem cadastreref4_Concat_ok {ρ : Type} (k : Nat) : AnsOK Tryd.prog 25 (cadastreref4_Concat_an (ρ := ρ) k) := by
  intro args bx K r h
  unfold cadastreref4_Concat_an at h
  replace h := popA_inv h; obtain ⟨v1, a2, rfl, h⟩ := h
  replace h := as_s23_inv h; obtain ⟨a0, rfl, h⟩ := h
  replace h := popA_inv h; obtain ⟨v3, a4, rfl, h⟩ := h
  replace h := as_s23_inv h; obtain ⟨b1, rfl, h⟩ := h
  replace h := popN_inv h; obtain ⟨rfl, h⟩ := h
  replace h := popN_inv h; obtain ⟨rfl, h⟩ := h
  replace h := bind_inv h
  obtain ⟨x, hx, h⟩ := h
  exact ⟨there_of Tryd.func25 (by kernel_rfl) cadastreref4_Concat_body, _, _, h, cadastreref4_Concat_con k a0 b1 x hx⟩

/-! cadastre/cadastrelaw4.is -/
noncomputable def cadastrelaw4_is_code : Code := match Tryd.f26.body with | some c => c | none => .skip
theorem cadastrelaw4_is_body : Tryd.f26.body = some cadastrelaw4_is_code := by kernel_rfl
noncomputable def cadastrelaw4_is_G {ρ : Type} (k : Nat) : Ans UX ρ := gk 19 (cadastrelaw4_num_an k) (gnil)
theorem cadastrelaw4_is_gok {ρ : Type} (k : Nat) : GOK Tryd.prog (cadastrelaw4_is_G (ρ := ρ) k) := gok_cons (cadastrelaw4_num_ok k) (gok_nil)
noncomputable def cadastrelaw4_is_cfg {ρ : Type} (k : Nat) : Cfg UX ρ where
  live i := (assoc [(0, [0, 1, 2, 3]), (1, [1, 3, 4, 6])] i).getD []
  boxes i := (assoc [(0, []), (1, [4, 6])] i).getD []
  tk i := (assoc [] i).getD []
  n := 18
  labelR l := (assoc [] l).getD 0
  loops := assoc []
  labels := assoc []
  joins := assoc []
  xl i e := match e with
    | .nxt => assoc [] i
    | .ret => assoc [] i
    | .exit j => (assoc [] i).bind fun l => assoc l j
    | .goto j => (assoc [] i).bind fun l => assoc l j
noncomputable def cadastrelaw4_is_L : List Code := selI [] (loopsOf cadastrelaw4_is_code)
noncomputable def cadastrelaw4_is_J : List Code := selI [] (joinsOf cadastrelaw4_is_code)
noncomputable def cadastrelaw4_is_S : List Code := scopesOf cadastrelaw4_is_code
theorem cadastrelaw4_is_cok {ρ : Type} (k : Nat) : COK (cadastrelaw4_is_cfg (ρ := ρ) k) (cadastrelaw4_is_G k) cadastrelaw4_is_code :=
  cok_of (tl := []) (tj := []) (tb := []) rfl rfl rfl (nil_all (by kernel_rfl)) (nil_all (by kernel_rfl)) (fun p hp => by cases hp)
noncomputable def cadastrelaw4_is_enc (r : Bool) : AV UU := .pv (.bool r)
noncomputable def cadastrelaw4_is_dec (v : AV UU) (_ : List (List (AV UU))) : Option Bool :=
asB v fun r0 =>
some r0
theorem cadastrelaw4_is_dec_enc (v : AV UU) (b : List (List (AV UU))) (r : Bool) (h : cadastrelaw4_is_dec v b = some r) : v = cadastrelaw4_is_enc r := by
  unfold cadastrelaw4_is_dec at h
  replace h := asB_inv h; obtain ⟨r0, rfl, h⟩ := h
  cases h
  rfl
theorem cadastrelaw4_is_eq (k : Nat) (v0 : S23) (e1 : Int) (want2 : S23) (bad3 : Int) : bodyK UX (cadastrelaw4_is_cfg k) (cadastrelaw4_is_G k) Tryd.f26 [.pv (.typ (.s23 v0)), .pv (.int .i64 e1), .pv (.typ (.s23 want2)), .pv (.int .i64 bad3)] [] cadastrelaw4_is_dec = cadastrelaw4_is k v0 e1 want2 bad3 := by kernel_rfl
theorem cadastrelaw4_is_con (k : Nat) (v0 : S23) (e1 : Int) (want2 : S23) (bad3 : Int) (r : Bool) (h : cadastrelaw4_is k v0 e1 want2 bad3 = some r) : Con (X := UX) Tryd.prog 26 [.pv (.typ (.s23 v0)), .pv (.int .i64 e1), .pv (.typ (.s23 want2)), .pv (.int .i64 bad3)] [] (cadastrelaw4_is_enc r) [] :=
  con_of_body xok tok Tryd.func26 cadastrelaw4_is_body (cadastrelaw4_is_gok k) rfl (cadastrelaw4_is_cok k) (of_decide_eq_true (by kernel_rfl)) cadastrelaw4_is_dec_enc ((cadastrelaw4_is_eq k v0 e1 want2 bad3).trans h)
noncomputable def cadastrelaw4_is_an {ρ : Type} (k : Nat) : An UX ρ := fun args bx K =>
popA args fun v1 a2 =>
as_s23 v1 fun v0 =>
popA a2 fun v3 a4 =>
asI .i64 v3 fun e1 =>
popA a4 fun v5 a6 =>
as_s23 v5 fun want2 =>
popA a6 fun v7 a8 =>
asI .i64 v7 fun bad3 =>
popN a8 <|
popN bx <|
(cadastrelaw4_is k v0 e1 want2 bad3).bind fun r => K (cadastrelaw4_is_enc r) []
theorem cadastrelaw4_is_ok {ρ : Type} (k : Nat) : AnsOK Tryd.prog 26 (cadastrelaw4_is_an (ρ := ρ) k) := by
  intro args bx K r h
  unfold cadastrelaw4_is_an at h
  replace h := popA_inv h; obtain ⟨v1, a2, rfl, h⟩ := h
  replace h := as_s23_inv h; obtain ⟨v0, rfl, h⟩ := h
  replace h := popA_inv h; obtain ⟨v3, a4, rfl, h⟩ := h
  replace h := asI_inv h; obtain ⟨e1, rfl, h⟩ := h
  replace h := popA_inv h; obtain ⟨v5, a6, rfl, h⟩ := h
  replace h := as_s23_inv h; obtain ⟨want2, rfl, h⟩ := h
  replace h := popA_inv h; obtain ⟨v7, a8, rfl, h⟩ := h
  replace h := asI_inv h; obtain ⟨bad3, rfl, h⟩ := h
  replace h := popN_inv h; obtain ⟨rfl, h⟩ := h
  replace h := popN_inv h; obtain ⟨rfl, h⟩ := h
  replace h := bind_inv h
  obtain ⟨x, hx, h⟩ := h
  exact ⟨there_of Tryd.func26 (by kernel_rfl) cadastrelaw4_is_body, _, _, h, cadastrelaw4_is_con k v0 e1 want2 bad3 x hx⟩

/-! cadastre/arith.Typeof -/
noncomputable def arith_Typeof_code : Code := match Tryd.f27.body with | some c => c | none => .skip
theorem arith_Typeof_body : Tryd.f27.body = some arith_Typeof_code := by kernel_rfl
noncomputable def arith_Typeof_G {ρ : Type} (k : Nat) : Ans UX ρ := gk 31 (value_Good_an k) (gk 35 (value_Text_an k) (gnil))
theorem arith_Typeof_gok {ρ : Type} (k : Nat) : GOK Tryd.prog (arith_Typeof_G (ρ := ρ) k) := gok_cons (value_Good_ok k) (gok_cons (value_Text_ok k) (gok_nil))
noncomputable def arith_Typeof_cfg {ρ : Type} (k : Nat) : Cfg UX ρ where
  live i := (assoc [(0, [0]), (1, [1, 2]), (2, [2]), (3, [1, 2])] i).getD []
  boxes i := (assoc [(0, []), (1, [1, 2]), (2, [2]), (3, [1, 2])] i).getD []
  tk i := (assoc [] i).getD []
  n := 14
  labelR l := (assoc [] l).getD 0
  loops := assoc []
  labels := assoc []
  joins := assoc []
  xl i e := match e with
    | .nxt => assoc [] i
    | .ret => assoc [] i
    | .exit j => (assoc [] i).bind fun l => assoc l j
    | .goto j => (assoc [] i).bind fun l => assoc l j
noncomputable def arith_Typeof_L : List Code := selI [] (loopsOf arith_Typeof_code)
noncomputable def arith_Typeof_J : List Code := selI [] (joinsOf arith_Typeof_code)
noncomputable def arith_Typeof_S : List Code := scopesOf arith_Typeof_code
theorem arith_Typeof_cok {ρ : Type} (k : Nat) : COK (arith_Typeof_cfg (ρ := ρ) k) (arith_Typeof_G k) arith_Typeof_code :=
  cok_of (tl := []) (tj := []) (tb := []) rfl rfl rfl (nil_all (by kernel_rfl)) (nil_all (by kernel_rfl)) (fun p hp => by cases hp)
noncomputable def arith_Typeof_enc (r : S23 × Int) : AV UU := .pv (.tup [.typ (.s23 r.1), .int .i64 r.2])
noncomputable def arith_Typeof_dec (v : AV UU) (_ : List (List (AV UU))) : Option (S23 × Int) :=
asT v fun q1 =>
popA q1 fun p2 q3 =>
as_s23 (.pv p2) fun r0 =>
popA q3 fun p4 q5 =>
asI .i64 (.pv p4) fun r1 =>
popN q5 <|
some (r0, r1)
theorem arith_Typeof_dec_enc (v : AV UU) (b : List (List (AV UU))) (r : S23 × Int) (h : arith_Typeof_dec v b = some r) : v = arith_Typeof_enc r := by
  unfold arith_Typeof_dec at h
  replace h := asT_inv h; obtain ⟨q1, rfl, h⟩ := h
  replace h := popA_inv h; obtain ⟨p2, q3, rfl, h⟩ := h
  replace h := as_s23_inv h; obtain ⟨r0, e, h⟩ := h; cases e
  replace h := popA_inv h; obtain ⟨p4, q5, rfl, h⟩ := h
  replace h := asI_inv h; obtain ⟨r1, e, h⟩ := h; cases e
  replace h := popN_inv h; obtain ⟨rfl, h⟩ := h
  cases h
  rfl
theorem arith_Typeof_eq (k : Nat) (v0 : S23) : bodyK UX (arith_Typeof_cfg k) (arith_Typeof_G k) Tryd.f27 [.pv (.typ (.s23 v0))] [] arith_Typeof_dec = arith_Typeof k v0 := by kernel_rfl
theorem arith_Typeof_con (k : Nat) (v0 : S23) (r : S23 × Int) (h : arith_Typeof k v0 = some r) : Con (X := UX) Tryd.prog 27 [.pv (.typ (.s23 v0))] [] (arith_Typeof_enc r) [] :=
  con_of_body xok tok Tryd.func27 arith_Typeof_body (arith_Typeof_gok k) rfl (arith_Typeof_cok k) (of_decide_eq_true (by kernel_rfl)) arith_Typeof_dec_enc ((arith_Typeof_eq k v0).trans h)
noncomputable def arith_Typeof_an {ρ : Type} (k : Nat) : An UX ρ := fun args bx K =>
popA args fun v1 a2 =>
as_s23 v1 fun v0 =>
popN a2 <|
popN bx <|
(arith_Typeof k v0).bind fun r => K (arith_Typeof_enc r) []
theorem arith_Typeof_ok {ρ : Type} (k : Nat) : AnsOK Tryd.prog 27 (arith_Typeof_an (ρ := ρ) k) := by
  intro args bx K r h
  unfold arith_Typeof_an at h
  replace h := popA_inv h; obtain ⟨v1, a2, rfl, h⟩ := h
  replace h := as_s23_inv h; obtain ⟨v0, rfl, h⟩ := h
  replace h := popN_inv h; obtain ⟨rfl, h⟩ := h
  replace h := popN_inv h; obtain ⟨rfl, h⟩ := h
  replace h := bind_inv h
  obtain ⟨x, hx, h⟩ := h
  exact ⟨there_of Tryd.func27 (by kernel_rfl) arith_Typeof_body, _, _, h, arith_Typeof_con k v0 x hx⟩
end Go.Proofs.YtdfmfpbdggefpaaDoor.D
