/-
  What the program's functions answer: the printed functions' answers.
-/
import Derived.Test.YtjkgphpmdkbpfaaDoorVG7
namespace Go.Proofs.YtjkgphpmdkbpfaaDoor.V
open Go Go.AX
/-! cadastre/cadastrelaw24.wakes -/
noncomputable def cadastrelaw24_wakes_code : Code := match Tryd.f14.body with | some c => c | none => .skip
theorem cadastrelaw24_wakes_body : Tryd.f14.body = some cadastrelaw24_wakes_code := by kernel_rfl
noncomputable def cadastrelaw24_wakes_G {ρ : Type} (k : Nat) : Ans UX ρ := gk 10 (vm_Run_an k) (gk 11 (cadastrelaw24_num_an k) (gnil))
theorem cadastrelaw24_wakes_gok {ρ : Type} (k : Nat) : GOK Tryd.prog (cadastrelaw24_wakes_G (ρ := ρ) k) := gok_cons (vm_Run_ok k) (gok_cons (cadastrelaw24_num_ok k) (gok_nil))
noncomputable def cadastrelaw24_wakes_cfg {ρ : Type} (k : Nat) : Cfg UX ρ where
  live i := (assoc [(0, []), (1, []), (2, [1]), (3, [1, 2, 3])] i).getD []
  boxes i := (assoc [(0, []), (1, []), (2, [1]), (3, [1, 2])] i).getD []
  tk i := (assoc [] i).getD []
  n := 21
  labelR l := (assoc [] l).getD 0
  loops := assoc []
  labels := assoc []
  joins := assoc []
  xl i e := match e with
    | .nxt => assoc [] i
    | .ret => assoc [] i
    | .exit j => (assoc [] i).bind fun l => assoc l j
    | .goto j => (assoc [] i).bind fun l => assoc l j
noncomputable def cadastrelaw24_wakes_L : List Code := selI [] (loopsOf cadastrelaw24_wakes_code)
noncomputable def cadastrelaw24_wakes_J : List Code := selI [] (joinsOf cadastrelaw24_wakes_code)
noncomputable def cadastrelaw24_wakes_S : List Code := scopesOf cadastrelaw24_wakes_code
theorem cadastrelaw24_wakes_cok {ρ : Type} (k : Nat) : COK (cadastrelaw24_wakes_cfg (ρ := ρ) k) (cadastrelaw24_wakes_G k) cadastrelaw24_wakes_code :=
  cok_of (tl := []) (tj := []) (tb := []) rfl rfl rfl (nil_all (by kernel_rfl)) (nil_all (by kernel_rfl)) (fun p hp => by cases hp)
noncomputable def cadastrelaw24_wakes_enc (r : Bool) : AV UU := .pv (.bool r)
noncomputable def cadastrelaw24_wakes_dec (v : AV UU) (_ : List (List (AV UU))) : Option Bool :=
asB v fun r0 =>
some r0
theorem cadastrelaw24_wakes_dec_enc (v : AV UU) (b : List (List (AV UU))) (r : Bool) (h : cadastrelaw24_wakes_dec v b = some r) : v = cadastrelaw24_wakes_enc r := by
  unfold cadastrelaw24_wakes_dec at h
  replace h := asB_inv h; obtain ⟨r0, rfl, h⟩ := h
  cases h
  rfl
theorem cadastrelaw24_wakes_eq (k : Nat) : bodyK UX (cadastrelaw24_wakes_cfg k) (cadastrelaw24_wakes_G k) Tryd.f14 [] [] cadastrelaw24_wakes_dec = cadastrelaw24_wakes k := by kernel_rfl
theorem cadastrelaw24_wakes_con (k : Nat) (r : Bool) (h : cadastrelaw24_wakes k = some r) : Con (X := UX) Tryd.prog 14 [] [] (cadastrelaw24_wakes_enc r) [] :=
  con_of_body xok tok Tryd.func14 cadastrelaw24_wakes_body (cadastrelaw24_wakes_gok k) rfl (cadastrelaw24_wakes_cok k) (of_decide_eq_true (by kernel_rfl)) cadastrelaw24_wakes_dec_enc ((cadastrelaw24_wakes_eq k).trans h)
noncomputable def cadastrelaw24_wakes_an {ρ : Type} (k : Nat) : An UX ρ := fun args bx K =>
popN args <|
popN bx <|
(cadastrelaw24_wakes k).bind fun r => K (cadastrelaw24_wakes_enc r) []
theorem cadastrelaw24_wakes_ok {ρ : Type} (k : Nat) : AnsOK Tryd.prog 14 (cadastrelaw24_wakes_an (ρ := ρ) k) := by
  intro args bx K r h
  unfold cadastrelaw24_wakes_an at h
  replace h := popN_inv h; obtain ⟨rfl, h⟩ := h
  replace h := popN_inv h; obtain ⟨rfl, h⟩ := h
  replace h := bind_inv h
  obtain ⟨x, hx, h⟩ := h
  exact ⟨there_of Tryd.func14 (by kernel_rfl) cadastrelaw24_wakes_body, _, _, h, cadastrelaw24_wakes_con k x hx⟩

/-! cadastre/cadastrelaw24.VmExact -/
noncomputable def cadastrelaw24_VmExact_code : Code := match Tryd.f3.body with | some c => c | none => .skip
theorem cadastrelaw24_VmExact_body : Tryd.f3.body = some cadastrelaw24_VmExact_code := by kernel_rfl
noncomputable def cadastrelaw24_VmExact_G {ρ : Type} (k : Nat) : Ans UX ρ := gk 5 (cadastrelaw24_heavy_an k) (gk 6 (cadastreref23_Code_an k) (gk 7 (cadastreref2_All_an k) (gk 8 (cadastreref23_Run_an k) (gk 9 (cadastreref0_CopyCodes_an k) (gk 10 (vm_Run_an k) (gk 12 (vm_Check_an k) (gk 11 (cadastrelaw24_num_an k) (gk 13 (cadastreref0_EqCodes_an k) (gk 14 (cadastrelaw24_wakes_an k) (gnil))))))))))
theorem cadastrelaw24_VmExact_gok {ρ : Type} (k : Nat) : GOK Tryd.prog (cadastrelaw24_VmExact_G (ρ := ρ) k) := gok_cons (cadastrelaw24_heavy_ok k) (gok_cons (cadastreref23_Code_ok k) (gok_cons (cadastreref2_All_ok k) (gok_cons (cadastreref23_Run_ok k) (gok_cons (cadastreref0_CopyCodes_ok k) (gok_cons (vm_Run_ok k) (gok_cons (vm_Check_ok k) (gok_cons (cadastrelaw24_num_ok k) (gok_cons (cadastreref0_EqCodes_ok k) (gok_cons (cadastrelaw24_wakes_ok k) (gok_nil))))))))))
noncomputable def cadastrelaw24_VmExact_j13_s {ρ : Type} (k : Nat) : Run UX ρ := fun s K =>
popS 0 s.env fun v1 e2 =>
as_l25 v1 fun l0 =>
popS 3 e2 fun v3 e4 =>
asI .i64 v3 fun i3 =>
popS 4 e4 fun v5 e6 =>
asP 4 0 v5 <|
popS 5 e6 fun v7 e8 =>
asI .i64 v7 fun check5 =>
popS 7 e8 fun v9 e10 =>
asP 7 0 v9 <|
popN e10 <|
popB 4 s.hp fun c11 e12 =>
popA c11 fun v13 c14 =>
as_l43 v13 fun z15 =>
popA c14 fun v16 c17 =>
as_l29 v16 fun z18 =>
popA c17 fun v19 c20 =>
asI .i64 v19 fun z21 =>
popA c20 fun v22 c23 =>
asI .i64 v22 fun z24 =>
popN c23 <|
popB 7 e12 fun c25 e26 =>
popA c25 fun v27 c28 =>
asI .i64 v27 fun z29 =>
popA c28 fun v30 c31 =>
asI .i64 v30 fun z32 =>
popA c31 fun v33 c34 =>
asS v33 fun z35 =>
popN c34 <|
popN e26 <|
cadastrelaw24_VmExact_j13 k (fun l0 i3 check5 bad6 p4 want7 => K .nxt ⟨[(0, .pv (.typ (.l25 l0))), (3, .pv (.int .i64 i3)), (4, .ptr 4 0), (5, .pv (.int .i64 check5)), (6, .pv (.int .i64 bad6)), (7, .ptr 7 0)], [(4, [.pv (.typ (.l43 p4.f0)), .pv (.typ (.l29 p4.f1)), .pv (.int .i64 p4.f2), .pv (.int .i64 p4.f3)]), (7, [.pv (.int .i64 want7.f0), .pv (.int .i64 want7.f1), .pv (.str want7.f2)])]⟩) l0 i3 check5 (⟨z15, z18, z21, z24⟩ : S25) (⟨z29, z32, z35⟩ : S29)
noncomputable def cadastrelaw24_VmExact_j14_s {ρ : Type} (k : Nat) : Run UX ρ := fun s K =>
popS 0 s.env fun v1 e2 =>
as_l25 v1 fun l0 =>
popS 3 e2 fun v3 e4 =>
asI .i64 v3 fun i3 =>
popS 4 e4 fun v5 e6 =>
asP 4 0 v5 <|
popS 5 e6 fun v7 e8 =>
asI .i64 v7 fun check5 =>
popS 6 e8 fun v9 e10 =>
asI .i64 v9 fun bad6 =>
popS 7 e10 fun v11 e12 =>
asP 7 0 v11 <|
popN e12 <|
popB 4 s.hp fun c13 e14 =>
popA c13 fun v15 c16 =>
as_l43 v15 fun z17 =>
popA c16 fun v18 c19 =>
as_l29 v18 fun z20 =>
popA c19 fun v21 c22 =>
asI .i64 v21 fun z23 =>
popA c22 fun v24 c25 =>
asI .i64 v24 fun z26 =>
popN c25 <|
popB 7 e14 fun c27 e28 =>
popA c27 fun v29 c30 =>
asI .i64 v29 fun z31 =>
popA c30 fun v32 c33 =>
asI .i64 v32 fun z34 =>
popA c33 fun v35 c36 =>
asS v35 fun z37 =>
popN c36 <|
popN e28 <|
cadastrelaw24_VmExact_j14 k (fun t2 => K .ret ⟨[(2, .pv (.bool t2))], []⟩) (fun l0 i3 => K .nxt ⟨[(0, .pv (.typ (.l25 l0))), (3, .pv (.int .i64 i3))], []⟩) l0 i3 check5 bad6 (⟨z17, z20, z23, z26⟩ : S25) (⟨z31, z34, z37⟩ : S29)
noncomputable def cadastrelaw24_VmExact_j10_s {ρ : Type} (k : Nat) : Run UX ρ := fun s K =>
popS 0 s.env fun v1 e2 =>
as_l25 v1 fun l0 =>
popS 3 e2 fun v3 e4 =>
asI .i64 v3 fun i3 =>
popS 4 e4 fun v5 e6 =>
asP 4 0 v5 <|
popS 5 e6 fun v7 e8 =>
asI .i64 v7 fun check5 =>
popN e8 <|
popB 4 s.hp fun c9 e10 =>
popA c9 fun v11 c12 =>
as_l43 v11 fun z13 =>
popA c12 fun v14 c15 =>
as_l29 v14 fun z16 =>
popA c15 fun v17 c18 =>
asI .i64 v17 fun z19 =>
popA c18 fun v20 c21 =>
asI .i64 v20 fun z22 =>
popN c21 <|
popN e10 <|
cadastrelaw24_VmExact_j10 k (fun t2 => K .ret ⟨[(2, .pv (.bool t2))], []⟩) (fun l0 i3 => K .nxt ⟨[(0, .pv (.typ (.l25 l0))), (3, .pv (.int .i64 i3))], []⟩) l0 i3 check5 (⟨z13, z16, z19, z22⟩ : S25)
noncomputable def cadastrelaw24_VmExact_j4_s {ρ : Type} (k : Nat) : Run UX ρ := fun s K =>
popS 0 s.env fun v1 e2 =>
as_l25 v1 fun l0 =>
popS 3 e2 fun v3 e4 =>
asI .i64 v3 fun i3 =>
popN e4 <|
popN s.hp <|
cadastrelaw24_VmExact_j4 k (fun t2 => K .ret ⟨[(2, .pv (.bool t2))], []⟩) (fun l0 i3 => K .nxt ⟨[(0, .pv (.typ (.l25 l0))), (3, .pv (.int .i64 i3))], []⟩) l0 i3
noncomputable def cadastrelaw24_VmExact_l2_s {ρ : Type} (k : Nat) : Run UX ρ := fun s K =>
popS 0 s.env fun v1 e2 =>
as_l25 v1 fun l0 =>
popS 3 e2 fun v3 e4 =>
asI .i64 v3 fun i3 =>
popN e4 <|
popN s.hp <|
cadastrelaw24_VmExact_l2 k (fun t2 => K .ret ⟨[(2, .pv (.bool t2))], []⟩) (K (.exit 0) ⟨[], []⟩) k l0 i3
noncomputable def cadastrelaw24_VmExact_cfg {ρ : Type} (k : Nat) : Cfg UX ρ where
  live i := (assoc [(0, [0]), (1, [0]), (2, [0, 3]), (3, [0, 3]), (4, [0, 3]), (5, [0, 3, 4]), (6, []), (7, [0, 3, 4]), (8, [0, 3, 4, 5]), (9, [0, 3, 4]), (10, [0, 3, 4, 5]), (11, [0, 3, 4, 5, 6]), (12, [0, 3, 4, 5, 6, 7]), (13, [0, 3, 4, 5, 7]), (14, [0, 3, 4, 5, 6, 7]), (15, [0, 3, 4, 5, 6, 7, 8]), (16, [0, 3, 4, 5, 6, 7, 8, 9, 10]), (17, []), (18, [])] i).getD []
  boxes i := (assoc [(0, []), (1, []), (2, []), (3, []), (4, []), (5, [4]), (6, []), (7, [4]), (8, [4]), (9, [4]), (10, [4]), (11, [4]), (12, [4, 7]), (13, [4, 7]), (14, [4, 7]), (15, [4, 7]), (16, [4, 7, 9]), (17, []), (18, [])] i).getD []
  tk i := (assoc [] i).getD []
  n := 96
  labelR l := (assoc [] l).getD 0
  loops := assoc [(2, cadastrelaw24_VmExact_l2_s k)]
  labels := assoc []
  joins := assoc [(13, cadastrelaw24_VmExact_j13_s k), (14, cadastrelaw24_VmExact_j14_s k), (10, cadastrelaw24_VmExact_j10_s k), (4, cadastrelaw24_VmExact_j4_s k)]
  xl i e := match e with
    | .nxt => assoc [(13, ([0, 3, 4, 5, 6, 7], [4, 7])), (14, ([0, 3], [])), (10, ([0, 3], [])), (4, ([0, 3], []))] i
    | .ret => assoc [(14, ([2], [])), (10, ([2], [])), (4, ([2], [])), (2, ([2], []))] i
    | .exit j => (assoc [(2, [(0, ([], []))])] i).bind fun l => assoc l j
    | .goto j => (assoc [] i).bind fun l => assoc l j
noncomputable def cadastrelaw24_VmExact_L : List Code := selI [2] (loopsOf cadastrelaw24_VmExact_code)
noncomputable def cadastrelaw24_VmExact_J : List Code := selI [13, 14, 10, 4] (joinsOf cadastrelaw24_VmExact_code)
noncomputable def cadastrelaw24_VmExact_S : List Code := scopesOf cadastrelaw24_VmExact_code
theorem cadastrelaw24_VmExact_l2_eq0 {ρ : Type} (k : Nat) (K : Ex → St UU → Option ρ) : ∀ (n : Nat) (v : (List S25) × Int), iterK UX (fun s => s.at (cadastrelaw24_VmExact_cfg (ρ := ρ) k).live (cadastrelaw24_VmExact_cfg (ρ := ρ) k).boxes (some 2)) (exec UX (cadastrelaw24_VmExact_cfg k) (cadastrelaw24_VmExact_G k) (cadastrelaw24_VmExact_L.getD 0 .skip)) n ⟨[(0, .pv (.typ (.l25 v.1))), (3, .pv (.int .i64 v.2))], []⟩ (nrmK UX (cadastrelaw24_VmExact_cfg k) 2 K) = cadastrelaw24_VmExact_l2 k (fun t2 => K .ret ⟨[(2, .pv (.bool t2))], []⟩) (K (.exit 0) ⟨[], []⟩) n v.1 v.2 :=
  iter_rec (X := UX) (fun v => ⟨[(0, .pv (.typ (.l25 v.1))), (3, .pv (.int .i64 v.2))], []⟩) (fun rec v => cadastrelaw24_VmExact_l2_b k (fun t2 => K .ret ⟨[(2, .pv (.bool t2))], []⟩) (K (.exit 0) ⟨[], []⟩) (fun l0 i3 => rec (l0, i3)) v.1 v.2) (fun n v => cadastrelaw24_VmExact_l2 k (fun t2 => K .ret ⟨[(2, .pv (.bool t2))], []⟩) (K (.exit 0) ⟨[], []⟩) n v.1 v.2) (fun n v => by kernel_rfl) (fun _ => rfl) (fun _ _ => rfl)
theorem cadastrelaw24_VmExact_l2_ok0 {ρ : Type} (k : Nat) : IterOK UX (cadastrelaw24_VmExact_cfg (ρ := ρ) k) (cadastrelaw24_VmExact_G k) (cadastrelaw24_VmExact_L.getD 0 .skip) 2 (cadastrelaw24_VmExact_l2_s k) := by
  intro s K r h
  obtain ⟨env, hp⟩ := s
  unfold cadastrelaw24_VmExact_l2_s at h
  replace h := popS_inv h; obtain ⟨v1, e2, rfl, h⟩ := h
  replace h := as_l25_inv h; obtain ⟨l0, rfl, h⟩ := h
  replace h := popS_inv h; obtain ⟨v3, e4, rfl, h⟩ := h
  replace h := asI_inv h; obtain ⟨i3, rfl, h⟩ := h
  replace h := popN_inv h; obtain ⟨rfl, h⟩ := h
  replace h := popN_inv h; obtain ⟨rfl, h⟩ := h
  exact ⟨k, (cadastrelaw24_VmExact_l2_eq0 k K k (l0, i3)).trans h⟩
theorem cadastrelaw24_VmExact_j4_eq0 {ρ : Type} (k : Nat) (K : Ex → St UU → Option ρ) (l0 : List S25) (i3 : Int) : exec UX (cadastrelaw24_VmExact_cfg k) (cadastrelaw24_VmExact_G k) (cadastrelaw24_VmExact_J.getD 0 .skip) ⟨[(0, .pv (.typ (.l25 l0))), (3, .pv (.int .i64 i3))], []⟩ (nrmK UX (cadastrelaw24_VmExact_cfg k) 4 K) = cadastrelaw24_VmExact_j4 k (fun t2 => K .ret ⟨[(2, .pv (.bool t2))], []⟩) (fun l0 i3 => K .nxt ⟨[(0, .pv (.typ (.l25 l0))), (3, .pv (.int .i64 i3))], []⟩) l0 i3 := by kernel_rfl
theorem cadastrelaw24_VmExact_j4_ok0 {ρ : Type} (k : Nat) : JoinOK UX (cadastrelaw24_VmExact_cfg (ρ := ρ) k) (cadastrelaw24_VmExact_G k) (cadastrelaw24_VmExact_J.getD 0 .skip) 4 (cadastrelaw24_VmExact_j4_s k) := by
  intro s K r h
  obtain ⟨env, hp⟩ := s
  unfold cadastrelaw24_VmExact_j4_s at h
  replace h := popS_inv h; obtain ⟨v1, e2, rfl, h⟩ := h
  replace h := as_l25_inv h; obtain ⟨l0, rfl, h⟩ := h
  replace h := popS_inv h; obtain ⟨v3, e4, rfl, h⟩ := h
  replace h := asI_inv h; obtain ⟨i3, rfl, h⟩ := h
  replace h := popN_inv h; obtain ⟨rfl, h⟩ := h
  replace h := popN_inv h; obtain ⟨rfl, h⟩ := h
  exact (cadastrelaw24_VmExact_j4_eq0 k K l0 i3).trans h
theorem cadastrelaw24_VmExact_j10_eq1 {ρ : Type} (k : Nat) (K : Ex → St UU → Option ρ) (l0 : List S25) (i3 : Int) (check5 : Int) (p4 : S25) : exec UX (cadastrelaw24_VmExact_cfg k) (cadastrelaw24_VmExact_G k) (cadastrelaw24_VmExact_J.getD 1 .skip) ⟨[(0, .pv (.typ (.l25 l0))), (3, .pv (.int .i64 i3)), (4, .ptr 4 0), (5, .pv (.int .i64 check5))], [(4, [.pv (.typ (.l43 p4.f0)), .pv (.typ (.l29 p4.f1)), .pv (.int .i64 p4.f2), .pv (.int .i64 p4.f3)])]⟩ (nrmK UX (cadastrelaw24_VmExact_cfg k) 10 K) = cadastrelaw24_VmExact_j10 k (fun t2 => K .ret ⟨[(2, .pv (.bool t2))], []⟩) (fun l0 i3 => K .nxt ⟨[(0, .pv (.typ (.l25 l0))), (3, .pv (.int .i64 i3))], []⟩) l0 i3 check5 p4 := by kernel_rfl
theorem cadastrelaw24_VmExact_j10_ok1 {ρ : Type} (k : Nat) : JoinOK UX (cadastrelaw24_VmExact_cfg (ρ := ρ) k) (cadastrelaw24_VmExact_G k) (cadastrelaw24_VmExact_J.getD 1 .skip) 10 (cadastrelaw24_VmExact_j10_s k) := by
  intro s K r h
  obtain ⟨env, hp⟩ := s
  unfold cadastrelaw24_VmExact_j10_s at h
  replace h := popS_inv h; obtain ⟨v1, e2, rfl, h⟩ := h
  replace h := as_l25_inv h; obtain ⟨l0, rfl, h⟩ := h
  replace h := popS_inv h; obtain ⟨v3, e4, rfl, h⟩ := h
  replace h := asI_inv h; obtain ⟨i3, rfl, h⟩ := h
  replace h := popS_inv h; obtain ⟨v5, e6, rfl, h⟩ := h
  replace h := asP_inv h; obtain ⟨rfl, h⟩ := h
  replace h := popS_inv h; obtain ⟨v7, e8, rfl, h⟩ := h
  replace h := asI_inv h; obtain ⟨check5, rfl, h⟩ := h
  replace h := popN_inv h; obtain ⟨rfl, h⟩ := h
  replace h := popB_inv h; obtain ⟨c9, e10, rfl, h⟩ := h
  replace h := popA_inv h; obtain ⟨v11, c12, rfl, h⟩ := h
  replace h := as_l43_inv h; obtain ⟨z13, rfl, h⟩ := h
  replace h := popA_inv h; obtain ⟨v14, c15, rfl, h⟩ := h
  replace h := as_l29_inv h; obtain ⟨z16, rfl, h⟩ := h
  replace h := popA_inv h; obtain ⟨v17, c18, rfl, h⟩ := h
  replace h := asI_inv h; obtain ⟨z19, rfl, h⟩ := h
  replace h := popA_inv h; obtain ⟨v20, c21, rfl, h⟩ := h
  replace h := asI_inv h; obtain ⟨z22, rfl, h⟩ := h
  replace h := popN_inv h; obtain ⟨rfl, h⟩ := h
  replace h := popN_inv h; obtain ⟨rfl, h⟩ := h
  exact (cadastrelaw24_VmExact_j10_eq1 k K l0 i3 check5 (⟨z13, z16, z19, z22⟩ : S25)).trans h
theorem cadastrelaw24_VmExact_j14_eq2 {ρ : Type} (k : Nat) (K : Ex → St UU → Option ρ) (l0 : List S25) (i3 : Int) (check5 : Int) (bad6 : Int) (p4 : S25) (want7 : S29) : exec UX (cadastrelaw24_VmExact_cfg k) (cadastrelaw24_VmExact_G k) (cadastrelaw24_VmExact_J.getD 2 .skip) ⟨[(0, .pv (.typ (.l25 l0))), (3, .pv (.int .i64 i3)), (4, .ptr 4 0), (5, .pv (.int .i64 check5)), (6, .pv (.int .i64 bad6)), (7, .ptr 7 0)], [(4, [.pv (.typ (.l43 p4.f0)), .pv (.typ (.l29 p4.f1)), .pv (.int .i64 p4.f2), .pv (.int .i64 p4.f3)]), (7, [.pv (.int .i64 want7.f0), .pv (.int .i64 want7.f1), .pv (.str want7.f2)])]⟩ (nrmK UX (cadastrelaw24_VmExact_cfg k) 14 K) = cadastrelaw24_VmExact_j14 k (fun t2 => K .ret ⟨[(2, .pv (.bool t2))], []⟩) (fun l0 i3 => K .nxt ⟨[(0, .pv (.typ (.l25 l0))), (3, .pv (.int .i64 i3))], []⟩) l0 i3 check5 bad6 p4 want7 := by kernel_rfl
theorem cadastrelaw24_VmExact_j14_ok2 {ρ : Type} (k : Nat) : JoinOK UX (cadastrelaw24_VmExact_cfg (ρ := ρ) k) (cadastrelaw24_VmExact_G k) (cadastrelaw24_VmExact_J.getD 2 .skip) 14 (cadastrelaw24_VmExact_j14_s k) := by
  intro s K r h
  obtain ⟨env, hp⟩ := s
  unfold cadastrelaw24_VmExact_j14_s at h
  replace h := popS_inv h; obtain ⟨v1, e2, rfl, h⟩ := h
  replace h := as_l25_inv h; obtain ⟨l0, rfl, h⟩ := h
  replace h := popS_inv h; obtain ⟨v3, e4, rfl, h⟩ := h
  replace h := asI_inv h; obtain ⟨i3, rfl, h⟩ := h
  replace h := popS_inv h; obtain ⟨v5, e6, rfl, h⟩ := h
  replace h := asP_inv h; obtain ⟨rfl, h⟩ := h
  replace h := popS_inv h; obtain ⟨v7, e8, rfl, h⟩ := h
  replace h := asI_inv h; obtain ⟨check5, rfl, h⟩ := h
  replace h := popS_inv h; obtain ⟨v9, e10, rfl, h⟩ := h
  replace h := asI_inv h; obtain ⟨bad6, rfl, h⟩ := h
  replace h := popS_inv h; obtain ⟨v11, e12, rfl, h⟩ := h
  replace h := asP_inv h; obtain ⟨rfl, h⟩ := h
  replace h := popN_inv h; obtain ⟨rfl, h⟩ := h
  replace h := popB_inv h; obtain ⟨c13, e14, rfl, h⟩ := h
  replace h := popA_inv h; obtain ⟨v15, c16, rfl, h⟩ := h
  replace h := as_l43_inv h; obtain ⟨z17, rfl, h⟩ := h
  replace h := popA_inv h; obtain ⟨v18, c19, rfl, h⟩ := h
  replace h := as_l29_inv h; obtain ⟨z20, rfl, h⟩ := h
  replace h := popA_inv h; obtain ⟨v21, c22, rfl, h⟩ := h
  replace h := asI_inv h; obtain ⟨z23, rfl, h⟩ := h
  replace h := popA_inv h; obtain ⟨v24, c25, rfl, h⟩ := h
  replace h := asI_inv h; obtain ⟨z26, rfl, h⟩ := h
  replace h := popN_inv h; obtain ⟨rfl, h⟩ := h
  replace h := popB_inv h; obtain ⟨c27, e28, rfl, h⟩ := h
  replace h := popA_inv h; obtain ⟨v29, c30, rfl, h⟩ := h
  replace h := asI_inv h; obtain ⟨z31, rfl, h⟩ := h
  replace h := popA_inv h; obtain ⟨v32, c33, rfl, h⟩ := h
  replace h := asI_inv h; obtain ⟨z34, rfl, h⟩ := h
  replace h := popA_inv h; obtain ⟨v35, c36, rfl, h⟩ := h
  replace h := asS_inv h; obtain ⟨z37, rfl, h⟩ := h
  replace h := popN_inv h; obtain ⟨rfl, h⟩ := h
  replace h := popN_inv h; obtain ⟨rfl, h⟩ := h
  exact (cadastrelaw24_VmExact_j14_eq2 k K l0 i3 check5 bad6 (⟨z17, z20, z23, z26⟩ : S25) (⟨z31, z34, z37⟩ : S29)).trans h
theorem cadastrelaw24_VmExact_j13_eq3 {ρ : Type} (k : Nat) (K : Ex → St UU → Option ρ) (l0 : List S25) (i3 : Int) (check5 : Int) (p4 : S25) (want7 : S29) : exec UX (cadastrelaw24_VmExact_cfg k) (cadastrelaw24_VmExact_G k) (cadastrelaw24_VmExact_J.getD 3 .skip) ⟨[(0, .pv (.typ (.l25 l0))), (3, .pv (.int .i64 i3)), (4, .ptr 4 0), (5, .pv (.int .i64 check5)), (7, .ptr 7 0)], [(4, [.pv (.typ (.l43 p4.f0)), .pv (.typ (.l29 p4.f1)), .pv (.int .i64 p4.f2), .pv (.int .i64 p4.f3)]), (7, [.pv (.int .i64 want7.f0), .pv (.int .i64 want7.f1), .pv (.str want7.f2)])]⟩ (nrmK UX (cadastrelaw24_VmExact_cfg k) 13 K) = cadastrelaw24_VmExact_j13 k (fun l0 i3 check5 bad6 p4 want7 => K .nxt ⟨[(0, .pv (.typ (.l25 l0))), (3, .pv (.int .i64 i3)), (4, .ptr 4 0), (5, .pv (.int .i64 check5)), (6, .pv (.int .i64 bad6)), (7, .ptr 7 0)], [(4, [.pv (.typ (.l43 p4.f0)), .pv (.typ (.l29 p4.f1)), .pv (.int .i64 p4.f2), .pv (.int .i64 p4.f3)]), (7, [.pv (.int .i64 want7.f0), .pv (.int .i64 want7.f1), .pv (.str want7.f2)])]⟩) l0 i3 check5 p4 want7 := by kernel_rfl
theorem cadastrelaw24_VmExact_j13_ok3 {ρ : Type} (k : Nat) : JoinOK UX (cadastrelaw24_VmExact_cfg (ρ := ρ) k) (cadastrelaw24_VmExact_G k) (cadastrelaw24_VmExact_J.getD 3 .skip) 13 (cadastrelaw24_VmExact_j13_s k) := by
  intro s K r h
  obtain ⟨env, hp⟩ := s
  unfold cadastrelaw24_VmExact_j13_s at h
  replace h := popS_inv h; obtain ⟨v1, e2, rfl, h⟩ := h
  replace h := as_l25_inv h; obtain ⟨l0, rfl, h⟩ := h
  replace h := popS_inv h; obtain ⟨v3, e4, rfl, h⟩ := h
  replace h := asI_inv h; obtain ⟨i3, rfl, h⟩ := h
  replace h := popS_inv h; obtain ⟨v5, e6, rfl, h⟩ := h
  replace h := asP_inv h; obtain ⟨rfl, h⟩ := h
  replace h := popS_inv h; obtain ⟨v7, e8, rfl, h⟩ := h
  replace h := asI_inv h; obtain ⟨check5, rfl, h⟩ := h
  replace h := popS_inv h; obtain ⟨v9, e10, rfl, h⟩ := h
  replace h := asP_inv h; obtain ⟨rfl, h⟩ := h
  replace h := popN_inv h; obtain ⟨rfl, h⟩ := h
  replace h := popB_inv h; obtain ⟨c11, e12, rfl, h⟩ := h
  replace h := popA_inv h; obtain ⟨v13, c14, rfl, h⟩ := h
  replace h := as_l43_inv h; obtain ⟨z15, rfl, h⟩ := h
  replace h := popA_inv h; obtain ⟨v16, c17, rfl, h⟩ := h
  replace h := as_l29_inv h; obtain ⟨z18, rfl, h⟩ := h
  replace h := popA_inv h; obtain ⟨v19, c20, rfl, h⟩ := h
  replace h := asI_inv h; obtain ⟨z21, rfl, h⟩ := h
  replace h := popA_inv h; obtain ⟨v22, c23, rfl, h⟩ := h
  replace h := asI_inv h; obtain ⟨z24, rfl, h⟩ := h
  replace h := popN_inv h; obtain ⟨rfl, h⟩ := h
  replace h := popB_inv h; obtain ⟨c25, e26, rfl, h⟩ := h
  replace h := popA_inv h; obtain ⟨v27, c28, rfl, h⟩ := h
  replace h := asI_inv h; obtain ⟨z29, rfl, h⟩ := h
  replace h := popA_inv h; obtain ⟨v30, c31, rfl, h⟩ := h
  replace h := asI_inv h; obtain ⟨z32, rfl, h⟩ := h
  replace h := popA_inv h; obtain ⟨v33, c34, rfl, h⟩ := h
  replace h := asS_inv h; obtain ⟨z35, rfl, h⟩ := h
  replace h := popN_inv h; obtain ⟨rfl, h⟩ := h
  replace h := popN_inv h; obtain ⟨rfl, h⟩ := h
  exact (cadastrelaw24_VmExact_j13_eq3 k K l0 i3 check5 (⟨z15, z18, z21, z24⟩ : S25) (⟨z29, z32, z35⟩ : S29)).trans h
theorem cadastrelaw24_VmExact_cok {ρ : Type} (k : Nat) : COK (cadastrelaw24_VmExact_cfg (ρ := ρ) k) (cadastrelaw24_VmExact_G k) cadastrelaw24_VmExact_code :=
  cok_of (tl := [(2, cadastrelaw24_VmExact_l2_s k)]) (tj := [(13, cadastrelaw24_VmExact_j13_s k), (14, cadastrelaw24_VmExact_j14_s k), (10, cadastrelaw24_VmExact_j10_s k), (4, cadastrelaw24_VmExact_j4_s k)]) (tb := []) rfl rfl rfl (all_nth 1 (by kernel_rfl) ⟨iter_case (by kernel_rfl) rfl (cadastrelaw24_VmExact_l2_ok0 k), trivial⟩) (all_nth 4 (by kernel_rfl) ⟨join_case (by kernel_rfl) rfl (cadastrelaw24_VmExact_j13_ok3 k), join_case (by kernel_rfl) rfl (cadastrelaw24_VmExact_j14_ok2 k), join_case (by kernel_rfl) rfl (cadastrelaw24_VmExact_j10_ok1 k), join_case (by kernel_rfl) rfl (cadastrelaw24_VmExact_j4_ok0 k), trivial⟩) (fun p hp => by cases hp)
noncomputable def cadastrelaw24_VmExact_enc (r : Bool) : AV UU := .pv (.bool r)
noncomputable def cadastrelaw24_VmExact_dec (v : AV UU) (_ : List (List (AV UU))) : Option Bool :=
asB v fun r0 =>
some r0
theorem cadastrelaw24_VmExact_dec_enc (v : AV UU) (b : List (List (AV UU))) (r : Bool) (h : cadastrelaw24_VmExact_dec v b = some r) : v = cadastrelaw24_VmExact_enc r := by
  unfold cadastrelaw24_VmExact_dec at h
  replace h := asB_inv h; obtain ⟨r0, rfl, h⟩ := h
  cases h
  rfl
theorem cadastrelaw24_VmExact_eq (k : Nat) (l0 : List S25) : bodyK UX (cadastrelaw24_VmExact_cfg k) (cadastrelaw24_VmExact_G k) Tryd.f3 [.pv (.typ (.l25 l0))] [] cadastrelaw24_VmExact_dec = cadastrelaw24_VmExact k l0 := by kernel_rfl
theorem cadastrelaw24_VmExact_con (k : Nat) (l0 : List S25) (r : Bool) (h : cadastrelaw24_VmExact k l0 = some r) : Con (X := UX) Tryd.prog 3 [.pv (.typ (.l25 l0))] [] (cadastrelaw24_VmExact_enc r) [] :=
  con_of_body xok tok Tryd.func3 cadastrelaw24_VmExact_body (cadastrelaw24_VmExact_gok k) rfl (cadastrelaw24_VmExact_cok k) (of_decide_eq_true (by kernel_rfl)) cadastrelaw24_VmExact_dec_enc ((cadastrelaw24_VmExact_eq k l0).trans h)
noncomputable def cadastrelaw24_VmExact_an {ρ : Type} (k : Nat) : An UX ρ := fun args bx K =>
popA args fun v1 a2 =>
as_l25 v1 fun l0 =>
popN a2 <|
popN bx <|
(cadastrelaw24_VmExact k l0).bind fun r => K (cadastrelaw24_VmExact_enc r) []
theorem cadastrelaw24_VmExact_ok {ρ : Type} (k : Nat) : AnsOK Tryd.prog 3 (cadastrelaw24_VmExact_an (ρ := ρ) k) := by
  intro args bx K r h
  unfold cadastrelaw24_VmExact_an at h
  replace h := popA_inv h; obtain ⟨v1, a2, rfl, h⟩ := h
  replace h := as_l25_inv h; obtain ⟨l0, rfl, h⟩ := h
  replace h := popN_inv h; obtain ⟨rfl, h⟩ := h
  replace h := popN_inv h; obtain ⟨rfl, h⟩ := h
  replace h := bind_inv h
  obtain ⟨x, hx, h⟩ := h
  exact ⟨there_of Tryd.func3 (by kernel_rfl) cadastrelaw24_VmExact_body, _, _, h, cadastrelaw24_VmExact_con k l0 x hx⟩

/-! cadastre/cadastrelaw24.VmSteps -/
noncomputable def cadastrelaw24_VmSteps_code : Code := match Tryd.f4.body with | some c => c | none => .skip
theorem cadastrelaw24_VmSteps_body : Tryd.f4.body = some cadastrelaw24_VmSteps_code := by kernel_rfl
noncomputable def cadastrelaw24_VmSteps_G {ρ : Type} (k : Nat) : Ans UX ρ := gk 5 (cadastrelaw24_heavy_an k) (gk 10 (vm_Run_an k) (gk 11 (cadastrelaw24_num_an k) (gk 15 (cadastreref2_Int_an k) (gk 14 (cadastrelaw24_wakes_an k) (gnil)))))
theorem cadastrelaw24_VmSteps_gok {ρ : Type} (k : Nat) : GOK Tryd.prog (cadastrelaw24_VmSteps_G (ρ := ρ) k) := gok_cons (cadastrelaw24_heavy_ok k) (gok_cons (vm_Run_ok k) (gok_cons (cadastrelaw24_num_ok k) (gok_cons (cadastreref2_Int_ok k) (gok_cons (cadastrelaw24_wakes_ok k) (gok_nil)))))
noncomputable def cadastrelaw24_VmSteps_j13_s {ρ : Type} (k : Nat) : Run UX ρ := fun s K =>
popS 0 s.env fun v1 e2 =>
as_l25 v1 fun l0 =>
popS 3 e2 fun v3 e4 =>
asI .i64 v3 fun i3 =>
popS 4 e4 fun v5 e6 =>
asP 4 0 v5 <|
popS 5 e6 fun v7 e8 =>
asI .i64 v7 fun n5 =>
popS 6 e8 fun v9 e10 =>
asP 6 0 v9 <|
popS 7 e10 fun v11 e12 =>
asI .i64 v11 fun e7 =>
popN e12 <|
popB 4 s.hp fun c13 e14 =>
popA c13 fun v15 c16 =>
as_l43 v15 fun z17 =>
popA c16 fun v18 c19 =>
as_l29 v18 fun z20 =>
popA c19 fun v21 c22 =>
asI .i64 v21 fun z23 =>
popA c22 fun v24 c25 =>
asI .i64 v24 fun z26 =>
popN c25 <|
popB 6 e14 fun c27 e28 =>
popA c27 fun v29 c30 =>
asI .i64 v29 fun z31 =>
popA c30 fun v32 c33 =>
asI .i64 v32 fun z34 =>
popA c33 fun v35 c36 =>
asS v35 fun z37 =>
popN c36 <|
popN e28 <|
cadastrelaw24_VmSteps_j13 k (fun t2 => K .ret ⟨[(2, .pv (.bool t2))], []⟩) (fun l0 i3 => K .nxt ⟨[(0, .pv (.typ (.l25 l0))), (3, .pv (.int .i64 i3))], []⟩) l0 i3 n5 e7 (⟨z17, z20, z23, z26⟩ : S25) (⟨z31, z34, z37⟩ : S29)
noncomputable def cadastrelaw24_VmSteps_j12_s {ρ : Type} (k : Nat) : Run UX ρ := fun s K =>
popS 0 s.env fun v1 e2 =>
as_l25 v1 fun l0 =>
popS 3 e2 fun v3 e4 =>
asI .i64 v3 fun i3 =>
popS 4 e4 fun v5 e6 =>
asP 4 0 v5 <|
popS 5 e6 fun v7 e8 =>
asI .i64 v7 fun n5 =>
popS 6 e8 fun v9 e10 =>
asP 6 0 v9 <|
popS 7 e10 fun v11 e12 =>
asI .i64 v11 fun e7 =>
popN e12 <|
popB 4 s.hp fun c13 e14 =>
popA c13 fun v15 c16 =>
as_l43 v15 fun z17 =>
popA c16 fun v18 c19 =>
as_l29 v18 fun z20 =>
popA c19 fun v21 c22 =>
asI .i64 v21 fun z23 =>
popA c22 fun v24 c25 =>
asI .i64 v24 fun z26 =>
popN c25 <|
popB 6 e14 fun c27 e28 =>
popA c27 fun v29 c30 =>
asI .i64 v29 fun z31 =>
popA c30 fun v32 c33 =>
asI .i64 v32 fun z34 =>
popA c33 fun v35 c36 =>
asS v35 fun z37 =>
popN c36 <|
popN e28 <|
cadastrelaw24_VmSteps_j12 k (fun l0 i3 => K (.exit 1) ⟨[(0, .pv (.typ (.l25 l0))), (3, .pv (.int .i64 i3))], []⟩) (fun t2 => K .ret ⟨[(2, .pv (.bool t2))], []⟩) (fun l0 i3 => K .nxt ⟨[(0, .pv (.typ (.l25 l0))), (3, .pv (.int .i64 i3))], []⟩) l0 i3 n5 e7 (⟨z17, z20, z23, z26⟩ : S25) (⟨z31, z34, z37⟩ : S29)
noncomputable def cadastrelaw24_VmSteps_j4_s {ρ : Type} (k : Nat) : Run UX ρ := fun s K =>
popS 0 s.env fun v1 e2 =>
as_l25 v1 fun l0 =>
popS 3 e2 fun v3 e4 =>
asI .i64 v3 fun i3 =>
popN e4 <|
popN s.hp <|
cadastrelaw24_VmSteps_j4 k (fun t2 => K .ret ⟨[(2, .pv (.bool t2))], []⟩) (fun l0 i3 => K .nxt ⟨[(0, .pv (.typ (.l25 l0))), (3, .pv (.int .i64 i3))], []⟩) l0 i3
noncomputable def cadastrelaw24_VmSteps_l2_s {ρ : Type} (k : Nat) : Run UX ρ := fun s K =>
popS 0 s.env fun v1 e2 =>
as_l25 v1 fun l0 =>
popS 3 e2 fun v3 e4 =>
asI .i64 v3 fun i3 =>
popN e4 <|
popN s.hp <|
cadastrelaw24_VmSteps_l2 k (fun t2 => K .ret ⟨[(2, .pv (.bool t2))], []⟩) (K (.exit 0) ⟨[], []⟩) k l0 i3
noncomputable def cadastrelaw24_VmSteps_cfg {ρ : Type} (k : Nat) : Cfg UX ρ where
  live i := (assoc [(0, [0]), (1, [0]), (2, [0, 3]), (3, [0, 3]), (4, [0, 3]), (5, [0, 3, 4]), (6, []), (7, [0, 3, 4]), (8, [0, 3, 4, 5]), (9, [0, 3, 4, 5, 6, 7]), (10, [0, 3, 4, 5, 6, 7, 8, 9]), (11, []), (12, [0, 3, 4, 5, 6, 7]), (13, [0, 3, 4, 5, 6, 7]), (14, [0, 3, 6, 7, 10, 11]), (15, []), (16, []), (17, [12]), (18, [14]), (19, [14, 15, 16])] i).getD []
  boxes i := (assoc [(0, []), (1, []), (2, []), (3, []), (4, []), (5, [4]), (6, []), (7, [4]), (8, [4]), (9, [4, 6]), (10, [4, 6, 8]), (11, []), (12, [4, 6]), (13, [4, 6]), (14, [6, 10]), (15, []), (16, []), (17, []), (18, []), (19, [15])] i).getD []
  tk i := (assoc [] i).getD []
  n := 123
  labelR l := (assoc [] l).getD 0
  loops := assoc [(2, cadastrelaw24_VmSteps_l2_s k)]
  labels := assoc []
  joins := assoc [(13, cadastrelaw24_VmSteps_j13_s k), (12, cadastrelaw24_VmSteps_j12_s k), (4, cadastrelaw24_VmSteps_j4_s k)]
  xl i e := match e with
    | .nxt => assoc [(13, ([0, 3], [])), (12, ([0, 3], [])), (4, ([0, 3], []))] i
    | .ret => assoc [(13, ([2], [])), (12, ([2], [])), (4, ([2], [])), (2, ([2], []))] i
    | .exit j => (assoc [(12, [(1, ([0, 3], []))]), (2, [(0, ([], []))])] i).bind fun l => assoc l j
    | .goto j => (assoc [] i).bind fun l => assoc l j
noncomputable def cadastrelaw24_VmSteps_L : List Code := selI [2] (loopsOf cadastrelaw24_VmSteps_code)
noncomputable def cadastrelaw24_VmSteps_J : List Code := selI [13, 12, 4] (joinsOf cadastrelaw24_VmSteps_code)
noncomputable def cadastrelaw24_VmSteps_S : List Code := scopesOf cadastrelaw24_VmSteps_code
theorem cadastrelaw24_VmSteps_l2_eq0 {ρ : Type} (k : Nat) (K : Ex → St UU → Option ρ) : ∀ (n : Nat) (v : (List S25) × Int), iterK UX (fun s => s.at (cadastrelaw24_VmSteps_cfg (ρ := ρ) k).live (cadastrelaw24_VmSteps_cfg (ρ := ρ) k).boxes (some 2)) (exec UX (cadastrelaw24_VmSteps_cfg k) (cadastrelaw24_VmSteps_G k) (cadastrelaw24_VmSteps_L.getD 0 .skip)) n ⟨[(0, .pv (.typ (.l25 v.1))), (3, .pv (.int .i64 v.2))], []⟩ (nrmK UX (cadastrelaw24_VmSteps_cfg k) 2 K) = cadastrelaw24_VmSteps_l2 k (fun t2 => K .ret ⟨[(2, .pv (.bool t2))], []⟩) (K (.exit 0) ⟨[], []⟩) n v.1 v.2 :=
  iter_rec (X := UX) (fun v => ⟨[(0, .pv (.typ (.l25 v.1))), (3, .pv (.int .i64 v.2))], []⟩) (fun rec v => cadastrelaw24_VmSteps_l2_b k (fun t2 => K .ret ⟨[(2, .pv (.bool t2))], []⟩) (K (.exit 0) ⟨[], []⟩) (fun l0 i3 => rec (l0, i3)) v.1 v.2) (fun n v => cadastrelaw24_VmSteps_l2 k (fun t2 => K .ret ⟨[(2, .pv (.bool t2))], []⟩) (K (.exit 0) ⟨[], []⟩) n v.1 v.2) (fun n v => by kernel_rfl) (fun _ => rfl) (fun _ _ => rfl)
theorem cadastrelaw24_VmSteps_l2_ok0 {ρ : Type} (k : Nat) : IterOK UX (cadastrelaw24_VmSteps_cfg (ρ := ρ) k) (cadastrelaw24_VmSteps_G k) (cadastrelaw24_VmSteps_L.getD 0 .skip) 2 (cadastrelaw24_VmSteps_l2_s k) := by
  intro s K r h
  obtain ⟨env, hp⟩ := s
  unfold cadastrelaw24_VmSteps_l2_s at h
  replace h := popS_inv h; obtain ⟨v1, e2, rfl, h⟩ := h
  replace h := as_l25_inv h; obtain ⟨l0, rfl, h⟩ := h
  replace h := popS_inv h; obtain ⟨v3, e4, rfl, h⟩ := h
  replace h := asI_inv h; obtain ⟨i3, rfl, h⟩ := h
  replace h := popN_inv h; obtain ⟨rfl, h⟩ := h
  replace h := popN_inv h; obtain ⟨rfl, h⟩ := h
  exact ⟨k, (cadastrelaw24_VmSteps_l2_eq0 k K k (l0, i3)).trans h⟩
theorem cadastrelaw24_VmSteps_j4_eq0 {ρ : Type} (k : Nat) (K : Ex → St UU → Option ρ) (l0 : List S25) (i3 : Int) : exec UX (cadastrelaw24_VmSteps_cfg k) (cadastrelaw24_VmSteps_G k) (cadastrelaw24_VmSteps_J.getD 0 .skip) ⟨[(0, .pv (.typ (.l25 l0))), (3, .pv (.int .i64 i3))], []⟩ (nrmK UX (cadastrelaw24_VmSteps_cfg k) 4 K) = cadastrelaw24_VmSteps_j4 k (fun t2 => K .ret ⟨[(2, .pv (.bool t2))], []⟩) (fun l0 i3 => K .nxt ⟨[(0, .pv (.typ (.l25 l0))), (3, .pv (.int .i64 i3))], []⟩) l0 i3 := by kernel_rfl
theorem cadastrelaw24_VmSteps_j4_ok0 {ρ : Type} (k : Nat) : JoinOK UX (cadastrelaw24_VmSteps_cfg (ρ := ρ) k) (cadastrelaw24_VmSteps_G k) (cadastrelaw24_VmSteps_J.getD 0 .skip) 4 (cadastrelaw24_VmSteps_j4_s k) := by
  intro s K r h
  obtain ⟨env, hp⟩ := s
  unfold cadastrelaw24_VmSteps_j4_s at h
  replace h := popS_inv h; obtain ⟨v1, e2, rfl, h⟩ := h
  replace h := as_l25_inv h; obtain ⟨l0, rfl, h⟩ := h
  replace h := popS_inv h; obtain ⟨v3, e4, rfl, h⟩ := h
  replace h := asI_inv h; obtain ⟨i3, rfl, h⟩ := h
  replace h := popN_inv h; obtain ⟨rfl, h⟩ := h
  replace h := popN_inv h; obtain ⟨rfl, h⟩ := h
  exact (cadastrelaw24_VmSteps_j4_eq0 k K l0 i3).trans h
theorem cadastrelaw24_VmSteps_j12_eq1 {ρ : Type} (k : Nat) (K : Ex → St UU → Option ρ) (l0 : List S25) (i3 : Int) (n5 : Int) (e7 : Int) (p4 : S25) (a6 : S29) : exec UX (cadastrelaw24_VmSteps_cfg k) (cadastrelaw24_VmSteps_G k) (cadastrelaw24_VmSteps_J.getD 1 .skip) ⟨[(0, .pv (.typ (.l25 l0))), (3, .pv (.int .i64 i3)), (4, .ptr 4 0), (5, .pv (.int .i64 n5)), (6, .ptr 6 0), (7, .pv (.int .i64 e7))], [(4, [.pv (.typ (.l43 p4.f0)), .pv (.typ (.l29 p4.f1)), .pv (.int .i64 p4.f2), .pv (.int .i64 p4.f3)]), (6, [.pv (.int .i64 a6.f0), .pv (.int .i64 a6.f1), .pv (.str a6.f2)])]⟩ (nrmK UX (cadastrelaw24_VmSteps_cfg k) 12 K) = cadastrelaw24_VmSteps_j12 k (fun l0 i3 => K (.exit 1) ⟨[(0, .pv (.typ (.l25 l0))), (3, .pv (.int .i64 i3))], []⟩) (fun t2 => K .ret ⟨[(2, .pv (.bool t2))], []⟩) (fun l0 i3 => K .nxt ⟨[(0, .pv (.typ (.l25 l0))), (3, .pv (.int .i64 i3))], []⟩) l0 i3 n5 e7 p4 a6 := by kernel_rfl
theorem cadastrelaw24_VmSteps_j12_ok1 {ρ : Type} (k : Nat) : JoinOK UX (cadastrelaw24_VmSteps_cfg (ρ := ρ) k) (cadastrelaw24_VmSteps_G k) (cadastrelaw24_VmSteps_J.getD 1 .skip) 12 (cadastrelaw24_VmSteps_j12_s k) := by
  intro s K r h
  obtain ⟨env, hp⟩ := s
  unfold cadastrelaw24_VmSteps_j12_s at h
  replace h := popS_inv h; obtain ⟨v1, e2, rfl, h⟩ := h
  replace h := as_l25_inv h; obtain ⟨l0, rfl, h⟩ := h
  replace h := popS_inv h; obtain ⟨v3, e4, rfl, h⟩ := h
  replace h := asI_inv h; obtain ⟨i3, rfl, h⟩ := h
  replace h := popS_inv h; obtain ⟨v5, e6, rfl, h⟩ := h
  replace h := asP_inv h; obtain ⟨rfl, h⟩ := h
  replace h := popS_inv h; obtain ⟨v7, e8, rfl, h⟩ := h
  replace h := asI_inv h; obtain ⟨n5, rfl, h⟩ := h
  replace h := popS_inv h; obtain ⟨v9, e10, rfl, h⟩ := h
  replace h := asP_inv h; obtain ⟨rfl, h⟩ := h
  replace h := popS_inv h; obtain ⟨v11, e12, rfl, h⟩ := h
  replace h := asI_inv h; obtain ⟨e7, rfl, h⟩ := h
  replace h := popN_inv h; obtain ⟨rfl, h⟩ := h
  replace h := popB_inv h; obtain ⟨c13, e14, rfl, h⟩ := h
  replace h := popA_inv h; obtain ⟨v15, c16, rfl, h⟩ := h
  replace h := as_l43_inv h; obtain ⟨z17, rfl, h⟩ := h
  replace h := popA_inv h; obtain ⟨v18, c19, rfl, h⟩ := h
  replace h := as_l29_inv h; obtain ⟨z20, rfl, h⟩ := h
  replace h := popA_inv h; obtain ⟨v21, c22, rfl, h⟩ := h
  replace h := asI_inv h; obtain ⟨z23, rfl, h⟩ := h
  replace h := popA_inv h; obtain ⟨v24, c25, rfl, h⟩ := h
  replace h := asI_inv h; obtain ⟨z26, rfl, h⟩ := h
  replace h := popN_inv h; obtain ⟨rfl, h⟩ := h
  replace h := popB_inv h; obtain ⟨c27, e28, rfl, h⟩ := h
  replace h := popA_inv h; obtain ⟨v29, c30, rfl, h⟩ := h
  replace h := asI_inv h; obtain ⟨z31, rfl, h⟩ := h
  replace h := popA_inv h; obtain ⟨v32, c33, rfl, h⟩ := h
  replace h := asI_inv h; obtain ⟨z34, rfl, h⟩ := h
  replace h := popA_inv h; obtain ⟨v35, c36, rfl, h⟩ := h
  replace h := asS_inv h; obtain ⟨z37, rfl, h⟩ := h
  replace h := popN_inv h; obtain ⟨rfl, h⟩ := h
  replace h := popN_inv h; obtain ⟨rfl, h⟩ := h
  exact (cadastrelaw24_VmSteps_j12_eq1 k K l0 i3 n5 e7 (⟨z17, z20, z23, z26⟩ : S25) (⟨z31, z34, z37⟩ : S29)).trans h
theorem cadastrelaw24_VmSteps_j13_eq2 {ρ : Type} (k : Nat) (K : Ex → St UU → Option ρ) (l0 : List S25) (i3 : Int) (n5 : Int) (e7 : Int) (p4 : S25) (a6 : S29) : exec UX (cadastrelaw24_VmSteps_cfg k) (cadastrelaw24_VmSteps_G k) (cadastrelaw24_VmSteps_J.getD 2 .skip) ⟨[(0, .pv (.typ (.l25 l0))), (3, .pv (.int .i64 i3)), (4, .ptr 4 0), (5, .pv (.int .i64 n5)), (6, .ptr 6 0), (7, .pv (.int .i64 e7))], [(4, [.pv (.typ (.l43 p4.f0)), .pv (.typ (.l29 p4.f1)), .pv (.int .i64 p4.f2), .pv (.int .i64 p4.f3)]), (6, [.pv (.int .i64 a6.f0), .pv (.int .i64 a6.f1), .pv (.str a6.f2)])]⟩ (nrmK UX (cadastrelaw24_VmSteps_cfg k) 13 K) = cadastrelaw24_VmSteps_j13 k (fun t2 => K .ret ⟨[(2, .pv (.bool t2))], []⟩) (fun l0 i3 => K .nxt ⟨[(0, .pv (.typ (.l25 l0))), (3, .pv (.int .i64 i3))], []⟩) l0 i3 n5 e7 p4 a6 := by kernel_rfl
theorem cadastrelaw24_VmSteps_j13_ok2 {ρ : Type} (k : Nat) : JoinOK UX (cadastrelaw24_VmSteps_cfg (ρ := ρ) k) (cadastrelaw24_VmSteps_G k) (cadastrelaw24_VmSteps_J.getD 2 .skip) 13 (cadastrelaw24_VmSteps_j13_s k) := by
  intro s K r h
  obtain ⟨env, hp⟩ := s
  unfold cadastrelaw24_VmSteps_j13_s at h
  replace h := popS_inv h; obtain ⟨v1, e2, rfl, h⟩ := h
  replace h := as_l25_inv h; obtain ⟨l0, rfl, h⟩ := h
  replace h := popS_inv h; obtain ⟨v3, e4, rfl, h⟩ := h
  replace h := asI_inv h; obtain ⟨i3, rfl, h⟩ := h
  replace h := popS_inv h; obtain ⟨v5, e6, rfl, h⟩ := h
  replace h := asP_inv h; obtain ⟨rfl, h⟩ := h
  replace h := popS_inv h; obtain ⟨v7, e8, rfl, h⟩ := h
  replace h := asI_inv h; obtain ⟨n5, rfl, h⟩ := h
  replace h := popS_inv h; obtain ⟨v9, e10, rfl, h⟩ := h
  replace h := asP_inv h; obtain ⟨rfl, h⟩ := h
  replace h := popS_inv h; obtain ⟨v11, e12, rfl, h⟩ := h
  replace h := asI_inv h; obtain ⟨e7, rfl, h⟩ := h
  replace h := popN_inv h; obtain ⟨rfl, h⟩ := h
  replace h := popB_inv h; obtain ⟨c13, e14, rfl, h⟩ := h
  replace h := popA_inv h; obtain ⟨v15, c16, rfl, h⟩ := h
  replace h := as_l43_inv h; obtain ⟨z17, rfl, h⟩ := h
  replace h := popA_inv h; obtain ⟨v18, c19, rfl, h⟩ := h
  replace h := as_l29_inv h; obtain ⟨z20, rfl, h⟩ := h
  replace h := popA_inv h; obtain ⟨v21, c22, rfl, h⟩ := h
  replace h := asI_inv h; obtain ⟨z23, rfl, h⟩ := h
  replace h := popA_inv h; obtain ⟨v24, c25, rfl, h⟩ := h
  replace h := asI_inv h; obtain ⟨z26, rfl, h⟩ := h
  replace h := popN_inv h; obtain ⟨rfl, h⟩ := h
  replace h := popB_inv h; obtain ⟨c27, e28, rfl, h⟩ := h
  replace h := popA_inv h; obtain ⟨v29, c30, rfl, h⟩ := h
  replace h := asI_inv h; obtain ⟨z31, rfl, h⟩ := h
  replace h := popA_inv h; obtain ⟨v32, c33, rfl, h⟩ := h
  replace h := asI_inv h; obtain ⟨z34, rfl, h⟩ := h
  replace h := popA_inv h; obtain ⟨v35, c36, rfl, h⟩ := h
  replace h := asS_inv h; obtain ⟨z37, rfl, h⟩ := h
  replace h := popN_inv h; obtain ⟨rfl, h⟩ := h
  replace h := popN_inv h; obtain ⟨rfl, h⟩ := h
  exact (cadastrelaw24_VmSteps_j13_eq2 k K l0 i3 n5 e7 (⟨z17, z20, z23, z26⟩ : S25) (⟨z31, z34, z37⟩ : S29)).trans h
theorem cadastrelaw24_VmSteps_cok {ρ : Type} (k : Nat) : COK (cadastrelaw24_VmSteps_cfg (ρ := ρ) k) (cadastrelaw24_VmSteps_G k) cadastrelaw24_VmSteps_code :=
  cok_of (tl := [(2, cadastrelaw24_VmSteps_l2_s k)]) (tj := [(13, cadastrelaw24_VmSteps_j13_s k), (12, cadastrelaw24_VmSteps_j12_s k), (4, cadastrelaw24_VmSteps_j4_s k)]) (tb := []) rfl rfl rfl (all_nth 1 (by kernel_rfl) ⟨iter_case (by kernel_rfl) rfl (cadastrelaw24_VmSteps_l2_ok0 k), trivial⟩) (all_nth 3 (by kernel_rfl) ⟨join_case (by kernel_rfl) rfl (cadastrelaw24_VmSteps_j13_ok2 k), join_case (by kernel_rfl) rfl (cadastrelaw24_VmSteps_j12_ok1 k), join_case (by kernel_rfl) rfl (cadastrelaw24_VmSteps_j4_ok0 k), trivial⟩) (fun p hp => by cases hp)
noncomputable def cadastrelaw24_VmSteps_enc (r : Bool) : AV UU := .pv (.bool r)
noncomputable def cadastrelaw24_VmSteps_dec (v : AV UU) (_ : List (List (AV UU))) : Option Bool :=
asB v fun r0 =>
some r0
theorem cadastrelaw24_VmSteps_dec_enc (v : AV UU) (b : List (List (AV UU))) (r : Bool) (h : cadastrelaw24_VmSteps_dec v b = some r) : v = cadastrelaw24_VmSteps_enc r := by
  unfold cadastrelaw24_VmSteps_dec at h
  replace h := asB_inv h; obtain ⟨r0, rfl, h⟩ := h
  cases h
  rfl
theorem cadastrelaw24_VmSteps_eq (k : Nat) (l0 : List S25) : bodyK UX (cadastrelaw24_VmSteps_cfg k) (cadastrelaw24_VmSteps_G k) Tryd.f4 [.pv (.typ (.l25 l0))] [] cadastrelaw24_VmSteps_dec = cadastrelaw24_VmSteps k l0 := by kernel_rfl
theorem cadastrelaw24_VmSteps_con (k : Nat) (l0 : List S25) (r : Bool) (h : cadastrelaw24_VmSteps k l0 = some r) : Con (X := UX) Tryd.prog 4 [.pv (.typ (.l25 l0))] [] (cadastrelaw24_VmSteps_enc r) [] :=
  con_of_body xok tok Tryd.func4 cadastrelaw24_VmSteps_body (cadastrelaw24_VmSteps_gok k) rfl (cadastrelaw24_VmSteps_cok k) (of_decide_eq_true (by kernel_rfl)) cadastrelaw24_VmSteps_dec_enc ((cadastrelaw24_VmSteps_eq k l0).trans h)
noncomputable def cadastrelaw24_VmSteps_an {ρ : Type} (k : Nat) : An UX ρ := fun args bx K =>
popA args fun v1 a2 =>
as_l25 v1 fun l0 =>
popN a2 <|
popN bx <|
(cadastrelaw24_VmSteps k l0).bind fun r => K (cadastrelaw24_VmSteps_enc r) []
theorem cadastrelaw24_VmSteps_ok {ρ : Type} (k : Nat) : AnsOK Tryd.prog 4 (cadastrelaw24_VmSteps_an (ρ := ρ) k) := by
  intro args bx K r h
  unfold cadastrelaw24_VmSteps_an at h
  replace h := popA_inv h; obtain ⟨v1, a2, rfl, h⟩ := h
  replace h := as_l25_inv h; obtain ⟨l0, rfl, h⟩ := h
  replace h := popN_inv h; obtain ⟨rfl, h⟩ := h
  replace h := popN_inv h; obtain ⟨rfl, h⟩ := h
  replace h := bind_inv h
  obtain ⟨x, hx, h⟩ := h
  exact ⟨there_of Tryd.func4 (by kernel_rfl) cadastrelaw24_VmSteps_body, _, _, h, cadastrelaw24_VmSteps_con k l0 x hx⟩
end Go.Proofs.YtjkgphpmdkbpfaaDoor.V
