/-
  What the program's functions answer: the printed functions' answers.
-/
import Derived.Test.YtahgjfdndpnpfaaTG2
namespace Go.Proofs.Ytahgjfdndpnpfaa.T
open Go Go.AX
/-! cadastre/cadastrelaw3.LogicNulls -/
noncomputable def cadastrelaw3_LogicNulls_code : Code := match Try.f5.body with | some c => c | none => .skip
theorem cadastrelaw3_LogicNulls_body : Try.f5.body = some cadastrelaw3_LogicNulls_code := by kernel_rfl
noncomputable def cadastrelaw3_LogicNulls_G {ρ : Type} (k : Nat) : Ans UX ρ := gk 8 (cadastreref2_May_an k) (gk 17 (logic_Null_an k) (gk 18 (cadastreref2_Int_an k) (gk 19 (cadastrelaw3_num_an k) (gk 20 (logic_Test_an k) (gk 21 (cadastrelaw3_wakes_an k) (gnil))))))
theorem cadastrelaw3_LogicNulls_gok {ρ : Type} (k : Nat) : GOK Try.prog (cadastrelaw3_LogicNulls_G (ρ := ρ) k) := gok_cons (cadastreref2_May_ok k) (gok_cons (logic_Null_ok k) (gok_cons (cadastreref2_Int_ok k) (gok_cons (cadastrelaw3_num_ok k) (gok_cons (logic_Test_ok k) (gok_cons (cadastrelaw3_wakes_ok k) (gok_nil))))))
noncomputable def cadastrelaw3_LogicNulls_l14_s {ρ : Type} (k : Nat) : Run UX ρ := fun s K =>
popS 0 s.env fun v1 e2 =>
as_l25 v1 fun l0 =>
popS 3 e2 fun v3 e4 =>
asI .i64 v3 fun i3 =>
popS 4 e4 fun v5 e6 =>
asP 4 0 v5 <|
popS 12 e6 fun v7 e8 =>
asI .i64 v7 fun op12 =>
popN e8 <|
popB 4 s.hp fun c9 e10 =>
popA c9 fun v11 c12 =>
asI .i64 v11 fun z13 =>
popA c12 fun v14 c15 =>
asI .i64 v14 fun z16 =>
popA c15 fun v17 c18 =>
asS v17 fun z19 =>
popN c18 <|
popN e10 <|
cadastrelaw3_LogicNulls_l14 k (fun t2 => K .ret ⟨[(2, .pv (.bool t2))], []⟩) (fun l0 i3 => K (.exit 2) ⟨[(0, .pv (.typ (.l25 l0))), (3, .pv (.int .i64 i3))], []⟩) k l0 i3 op12 (⟨z13, z16, z19⟩ : S23)
noncomputable def cadastrelaw3_LogicNulls_j13_s {ρ : Type} (k : Nat) : Run UX ρ := fun s K =>
popS 0 s.env fun v1 e2 =>
as_l25 v1 fun l0 =>
popS 3 e2 fun v3 e4 =>
asI .i64 v3 fun i3 =>
popS 4 e4 fun v5 e6 =>
asP 4 0 v5 <|
popN e6 <|
popB 4 s.hp fun c7 e8 =>
popA c7 fun v9 c10 =>
asI .i64 v9 fun z11 =>
popA c10 fun v12 c13 =>
asI .i64 v12 fun z14 =>
popA c13 fun v15 c16 =>
asS v15 fun z17 =>
popN c16 <|
popN e8 <|
cadastrelaw3_LogicNulls_j13 k (fun t2 => K .ret ⟨[(2, .pv (.bool t2))], []⟩) (fun l0 i3 => K .nxt ⟨[(0, .pv (.typ (.l25 l0))), (3, .pv (.int .i64 i3))], []⟩) l0 i3 (⟨z11, z14, z17⟩ : S23)
noncomputable def cadastrelaw3_LogicNulls_j4_s {ρ : Type} (k : Nat) : Run UX ρ := fun s K =>
popS 0 s.env fun v1 e2 =>
as_l25 v1 fun l0 =>
popS 3 e2 fun v3 e4 =>
asI .i64 v3 fun i3 =>
popN e4 <|
popN s.hp <|
cadastrelaw3_LogicNulls_j4 k (fun l0 i3 => K .nxt ⟨[(0, .pv (.typ (.l25 l0))), (3, .pv (.int .i64 i3))], []⟩) (fun t2 => K .ret ⟨[(2, .pv (.bool t2))], []⟩) l0 i3
noncomputable def cadastrelaw3_LogicNulls_l2_s {ρ : Type} (k : Nat) : Run UX ρ := fun s K =>
popS 0 s.env fun v1 e2 =>
as_l25 v1 fun l0 =>
popS 3 e2 fun v3 e4 =>
asI .i64 v3 fun i3 =>
popN e4 <|
popN s.hp <|
cadastrelaw3_LogicNulls_l2 k (fun t2 => K .ret ⟨[(2, .pv (.bool t2))], []⟩) (K (.exit 0) ⟨[], []⟩) k l0 i3
noncomputable def cadastrelaw3_LogicNulls_cfg {ρ : Type} (k : Nat) : Cfg UX ρ where
  live i := (assoc [(0, [0]), (1, [0]), (2, [0, 3]), (3, [0, 3]), (4, [0, 3]), (5, [0, 3, 4]), (6, [0, 3, 4]), (7, [0, 3, 4, 5, 6]), (8, [0, 3, 4, 5, 6, 7, 8]), (9, [0, 3, 4, 5, 6, 7, 8, 9]), (10, [0, 3, 4, 5, 6, 7, 8, 9, 10]), (11, [0, 3, 4, 5, 6, 7, 8, 9, 10, 11]), (12, []), (13, [0, 3, 4]), (14, [0, 3, 4, 12]), (15, [0, 3, 4, 12]), (16, [0, 3, 4, 12]), (17, [0, 3, 4, 12, 13, 14]), (18, [0, 3, 4, 12, 13, 14, 15, 16]), (19, []), (20, [])] i).getD []
  boxes i := (assoc [(0, []), (1, []), (2, []), (3, []), (4, []), (5, [4]), (6, [4]), (7, [4, 5]), (8, [4, 5, 7]), (9, [4, 5, 7, 9]), (10, [4, 5, 7, 9, 10]), (11, [4, 5, 7, 9, 10]), (12, []), (13, [4]), (14, [4]), (15, [4]), (16, [4]), (17, [4, 13]), (18, [4, 13, 15]), (19, []), (20, [])] i).getD []
  tk _ := []
  n := 122
  labelR l := (assoc [] l).getD 0
  loops := assoc [(14, cadastrelaw3_LogicNulls_l14_s k), (2, cadastrelaw3_LogicNulls_l2_s k)]
  labels := assoc []
  joins := assoc [(13, cadastrelaw3_LogicNulls_j13_s k), (4, cadastrelaw3_LogicNulls_j4_s k)]
  xl i e := match e with
    | .nxt => assoc [(13, ([0, 3], [])), (4, ([0, 3], []))] i
    | .ret => assoc [(14, ([2], [])), (13, ([2], [])), (4, ([2], [])), (2, ([2], []))] i
    | .exit j => (assoc [(14, [(2, ([0, 3], []))]), (2, [(0, ([], []))])] i).bind fun l => assoc l j
    | .goto j => (assoc [] i).bind fun l => assoc l j
noncomputable def cadastrelaw3_LogicNulls_L : List Code := selI [14, 2] (loopsOf cadastrelaw3_LogicNulls_code)
noncomputable def cadastrelaw3_LogicNulls_J : List Code := selI [13, 4] (joinsOf cadastrelaw3_LogicNulls_code)
noncomputable def cadastrelaw3_LogicNulls_S : List Code := scopesOf cadastrelaw3_LogicNulls_code
theorem cadastrelaw3_LogicNulls_l2_eq0 {ρ : Type} (k : Nat) (K : Ex → St UU → Option ρ) : ∀ (n : Nat) (v : (List S25) × Int), iterK UX (fun s => s.at (cadastrelaw3_LogicNulls_cfg (ρ := ρ) k).live (cadastrelaw3_LogicNulls_cfg (ρ := ρ) k).boxes (some 2)) (exec UX (cadastrelaw3_LogicNulls_cfg k) (cadastrelaw3_LogicNulls_G k) (cadastrelaw3_LogicNulls_L.getD 0 .skip)) n ⟨[(0, .pv (.typ (.l25 v.1))), (3, .pv (.int .i64 v.2))], []⟩ (nrmK UX (cadastrelaw3_LogicNulls_cfg k) 2 K) = cadastrelaw3_LogicNulls_l2 k (fun t2 => K .ret ⟨[(2, .pv (.bool t2))], []⟩) (K (.exit 0) ⟨[], []⟩) n v.1 v.2 :=
  iter_rec (X := UX) (fun v => ⟨[(0, .pv (.typ (.l25 v.1))), (3, .pv (.int .i64 v.2))], []⟩) (fun rec v => cadastrelaw3_LogicNulls_l2_b k (fun t2 => K .ret ⟨[(2, .pv (.bool t2))], []⟩) (K (.exit 0) ⟨[], []⟩) (fun l0 i3 => rec (l0, i3)) v.1 v.2) (fun n v => cadastrelaw3_LogicNulls_l2 k (fun t2 => K .ret ⟨[(2, .pv (.bool t2))], []⟩) (K (.exit 0) ⟨[], []⟩) n v.1 v.2) (fun n v => by kernel_rfl) (fun _ => rfl) (fun _ _ => rfl)
theorem cadastrelaw3_LogicNulls_l2_ok0 {ρ : Type} (k : Nat) : IterOK UX (cadastrelaw3_LogicNulls_cfg (ρ := ρ) k) (cadastrelaw3_LogicNulls_G k) (cadastrelaw3_LogicNulls_L.getD 0 .skip) 2 (cadastrelaw3_LogicNulls_l2_s k) := by
  intro s K r h
  obtain ⟨env, hp⟩ := s
  unfold cadastrelaw3_LogicNulls_l2_s at h
  replace h := popS_inv h; obtain ⟨v1, e2, rfl, h⟩ := h
  replace h := as_l25_inv h; obtain ⟨l0, rfl, h⟩ := h
  replace h := popS_inv h; obtain ⟨v3, e4, rfl, h⟩ := h
  replace h := asI_inv h; obtain ⟨i3, rfl, h⟩ := h
  replace h := popN_inv h; obtain ⟨rfl, h⟩ := h
  replace h := popN_inv h; obtain ⟨rfl, h⟩ := h
  exact ⟨k, (cadastrelaw3_LogicNulls_l2_eq0 k K k (l0, i3)).trans h⟩
theorem cadastrelaw3_LogicNulls_l14_eq1 {ρ : Type} (k : Nat) (K : Ex → St UU → Option ρ) : ∀ (n : Nat) (v : (List S25) × Int × Int × S23), iterK UX (fun s => s.at (cadastrelaw3_LogicNulls_cfg (ρ := ρ) k).live (cadastrelaw3_LogicNulls_cfg (ρ := ρ) k).boxes (some 14)) (exec UX (cadastrelaw3_LogicNulls_cfg k) (cadastrelaw3_LogicNulls_G k) (cadastrelaw3_LogicNulls_L.getD 1 .skip)) n ⟨[(0, .pv (.typ (.l25 v.1))), (3, .pv (.int .i64 v.2.1)), (4, .ptr 4 0), (12, .pv (.int .i64 v.2.2.1))], [(4, [.pv (.int .i64 v.2.2.2.f0), .pv (.int .i64 v.2.2.2.f1), .pv (.str v.2.2.2.f2)])]⟩ (nrmK UX (cadastrelaw3_LogicNulls_cfg k) 14 K) = cadastrelaw3_LogicNulls_l14 k (fun t2 => K .ret ⟨[(2, .pv (.bool t2))], []⟩) (fun l0 i3 => K (.exit 2) ⟨[(0, .pv (.typ (.l25 l0))), (3, .pv (.int .i64 i3))], []⟩) n v.1 v.2.1 v.2.2.1 v.2.2.2 :=
  iter_rec (X := UX) (fun v => ⟨[(0, .pv (.typ (.l25 v.1))), (3, .pv (.int .i64 v.2.1)), (4, .ptr 4 0), (12, .pv (.int .i64 v.2.2.1))], [(4, [.pv (.int .i64 v.2.2.2.f0), .pv (.int .i64 v.2.2.2.f1), .pv (.str v.2.2.2.f2)])]⟩) (fun rec v => cadastrelaw3_LogicNulls_l14_b k (fun t2 => K .ret ⟨[(2, .pv (.bool t2))], []⟩) (fun l0 i3 => K (.exit 2) ⟨[(0, .pv (.typ (.l25 l0))), (3, .pv (.int .i64 i3))], []⟩) (fun l0 i3 op12 a4 => rec (l0, i3, op12, a4)) v.1 v.2.1 v.2.2.1 v.2.2.2) (fun n v => cadastrelaw3_LogicNulls_l14 k (fun t2 => K .ret ⟨[(2, .pv (.bool t2))], []⟩) (fun l0 i3 => K (.exit 2) ⟨[(0, .pv (.typ (.l25 l0))), (3, .pv (.int .i64 i3))], []⟩) n v.1 v.2.1 v.2.2.1 v.2.2.2) (fun n v => by kernel_rfl) (fun _ => rfl) (fun _ _ => rfl)
theorem cadastrelaw3_LogicNulls_l14_ok1 {ρ : Type} (k : Nat) : IterOK UX (cadastrelaw3_LogicNulls_cfg (ρ := ρ) k) (cadastrelaw3_LogicNulls_G k) (cadastrelaw3_LogicNulls_L.getD 1 .skip) 14 (cadastrelaw3_LogicNulls_l14_s k) := by
  intro s K r h
  obtain ⟨env, hp⟩ := s
  unfold cadastrelaw3_LogicNulls_l14_s at h
  replace h := popS_inv h; obtain ⟨v1, e2, rfl, h⟩ := h
  replace h := as_l25_inv h; obtain ⟨l0, rfl, h⟩ := h
  replace h := popS_inv h; obtain ⟨v3, e4, rfl, h⟩ := h
  replace h := asI_inv h; obtain ⟨i3, rfl, h⟩ := h
  replace h := popS_inv h; obtain ⟨v5, e6, rfl, h⟩ := h
  replace h := asP_inv h; obtain ⟨rfl, h⟩ := h
  replace h := popS_inv h; obtain ⟨v7, e8, rfl, h⟩ := h
  replace h := asI_inv h; obtain ⟨op12, rfl, h⟩ := h
  replace h := popN_inv h; obtain ⟨rfl, h⟩ := h
  replace h := popB_inv h; obtain ⟨c9, e10, rfl, h⟩ := h
  replace h := popA_inv h; obtain ⟨v11, c12, rfl, h⟩ := h
  replace h := asI_inv h; obtain ⟨z13, rfl, h⟩ := h
  replace h := popA_inv h; obtain ⟨v14, c15, rfl, h⟩ := h
  replace h := asI_inv h; obtain ⟨z16, rfl, h⟩ := h
  replace h := popA_inv h; obtain ⟨v17, c18, rfl, h⟩ := h
  replace h := asS_inv h; obtain ⟨z19, rfl, h⟩ := h
  replace h := popN_inv h; obtain ⟨rfl, h⟩ := h
  replace h := popN_inv h; obtain ⟨rfl, h⟩ := h
  exact ⟨k, (cadastrelaw3_LogicNulls_l14_eq1 k K k (l0, i3, op12, (⟨z13, z16, z19⟩ : S23))).trans h⟩
theorem cadastrelaw3_LogicNulls_j4_eq0 {ρ : Type} (k : Nat) (K : Ex → St UU → Option ρ) (l0 : List S25) (i3 : Int) : exec UX (cadastrelaw3_LogicNulls_cfg k) (cadastrelaw3_LogicNulls_G k) (cadastrelaw3_LogicNulls_J.getD 0 .skip) ⟨[(0, .pv (.typ (.l25 l0))), (3, .pv (.int .i64 i3))], []⟩ (nrmK UX (cadastrelaw3_LogicNulls_cfg k) 4 K) = cadastrelaw3_LogicNulls_j4 k (fun l0 i3 => K .nxt ⟨[(0, .pv (.typ (.l25 l0))), (3, .pv (.int .i64 i3))], []⟩) (fun t2 => K .ret ⟨[(2, .pv (.bool t2))], []⟩) l0 i3 := by kernel_rfl
theorem cadastrelaw3_LogicNulls_j4_ok0 {ρ : Type} (k : Nat) : JoinOK UX (cadastrelaw3_LogicNulls_cfg (ρ := ρ) k) (cadastrelaw3_LogicNulls_G k) (cadastrelaw3_LogicNulls_J.getD 0 .skip) 4 (cadastrelaw3_LogicNulls_j4_s k) := by
  intro s K r h
  obtain ⟨env, hp⟩ := s
  unfold cadastrelaw3_LogicNulls_j4_s at h
  replace h := popS_inv h; obtain ⟨v1, e2, rfl, h⟩ := h
  replace h := as_l25_inv h; obtain ⟨l0, rfl, h⟩ := h
  replace h := popS_inv h; obtain ⟨v3, e4, rfl, h⟩ := h
  replace h := asI_inv h; obtain ⟨i3, rfl, h⟩ := h
  replace h := popN_inv h; obtain ⟨rfl, h⟩ := h
  replace h := popN_inv h; obtain ⟨rfl, h⟩ := h
  exact (cadastrelaw3_LogicNulls_j4_eq0 k K l0 i3).trans h
theorem cadastrelaw3_LogicNulls_j13_eq1 {ρ : Type} (k : Nat) (K : Ex → St UU → Option ρ) (l0 : List S25) (i3 : Int) (a4 : S23) : exec UX (cadastrelaw3_LogicNulls_cfg k) (cadastrelaw3_LogicNulls_G k) (cadastrelaw3_LogicNulls_J.getD 1 .skip) ⟨[(0, .pv (.typ (.l25 l0))), (3, .pv (.int .i64 i3)), (4, .ptr 4 0)], [(4, [.pv (.int .i64 a4.f0), .pv (.int .i64 a4.f1), .pv (.str a4.f2)])]⟩ (nrmK UX (cadastrelaw3_LogicNulls_cfg k) 13 K) = cadastrelaw3_LogicNulls_j13 k (fun t2 => K .ret ⟨[(2, .pv (.bool t2))], []⟩) (fun l0 i3 => K .nxt ⟨[(0, .pv (.typ (.l25 l0))), (3, .pv (.int .i64 i3))], []⟩) l0 i3 a4 := by kernel_rfl
theorem cadastrelaw3_LogicNulls_j13_ok1 {ρ : Type} (k : Nat) : JoinOK UX (cadastrelaw3_LogicNulls_cfg (ρ := ρ) k) (cadastrelaw3_LogicNulls_G k) (cadastrelaw3_LogicNulls_J.getD 1 .skip) 13 (cadastrelaw3_LogicNulls_j13_s k) := by
  intro s K r h
  obtain ⟨env, hp⟩ := s
  unfold cadastrelaw3_LogicNulls_j13_s at h
  replace h := popS_inv h; obtain ⟨v1, e2, rfl, h⟩ := h
  replace h := as_l25_inv h; obtain ⟨l0, rfl, h⟩ := h
  replace h := popS_inv h; obtain ⟨v3, e4, rfl, h⟩ := h
  replace h := asI_inv h; obtain ⟨i3, rfl, h⟩ := h
  replace h := popS_inv h; obtain ⟨v5, e6, rfl, h⟩ := h
  replace h := asP_inv h; obtain ⟨rfl, h⟩ := h
  replace h := popN_inv h; obtain ⟨rfl, h⟩ := h
  replace h := popB_inv h; obtain ⟨c7, e8, rfl, h⟩ := h
  replace h := popA_inv h; obtain ⟨v9, c10, rfl, h⟩ := h
  replace h := asI_inv h; obtain ⟨z11, rfl, h⟩ := h
  replace h := popA_inv h; obtain ⟨v12, c13, rfl, h⟩ := h
  replace h := asI_inv h; obtain ⟨z14, rfl, h⟩ := h
  replace h := popA_inv h; obtain ⟨v15, c16, rfl, h⟩ := h
  replace h := asS_inv h; obtain ⟨z17, rfl, h⟩ := h
  replace h := popN_inv h; obtain ⟨rfl, h⟩ := h
  replace h := popN_inv h; obtain ⟨rfl, h⟩ := h
  exact (cadastrelaw3_LogicNulls_j13_eq1 k K l0 i3 (⟨z11, z14, z17⟩ : S23)).trans h
theorem cadastrelaw3_LogicNulls_cok {ρ : Type} (k : Nat) : COK (cadastrelaw3_LogicNulls_cfg (ρ := ρ) k) (cadastrelaw3_LogicNulls_G k) cadastrelaw3_LogicNulls_code :=
  cok_of (tl := [(14, cadastrelaw3_LogicNulls_l14_s k), (2, cadastrelaw3_LogicNulls_l2_s k)]) (tj := [(13, cadastrelaw3_LogicNulls_j13_s k), (4, cadastrelaw3_LogicNulls_j4_s k)]) (tb := []) rfl rfl rfl (all_nth 2 (by kernel_rfl) ⟨iter_case (by kernel_rfl) rfl (cadastrelaw3_LogicNulls_l14_ok1 k), iter_case (by kernel_rfl) rfl (cadastrelaw3_LogicNulls_l2_ok0 k), trivial⟩) (all_nth 2 (by kernel_rfl) ⟨join_case (by kernel_rfl) rfl (cadastrelaw3_LogicNulls_j13_ok1 k), join_case (by kernel_rfl) rfl (cadastrelaw3_LogicNulls_j4_ok0 k), trivial⟩) (fun p hp => by cases hp)
noncomputable def cadastrelaw3_LogicNulls_enc (r : Bool) : AV UU := .pv (.bool r)
noncomputable def cadastrelaw3_LogicNulls_dec (v : AV UU) (_ : List (List (AV UU))) : Option Bool :=
asB v fun r0 =>
some r0
theorem cadastrelaw3_LogicNulls_dec_enc (v : AV UU) (b : List (List (AV UU))) (r : Bool) (h : cadastrelaw3_LogicNulls_dec v b = some r) : v = cadastrelaw3_LogicNulls_enc r := by
  unfold cadastrelaw3_LogicNulls_dec at h
  replace h := asB_inv h; obtain ⟨r0, rfl, h⟩ := h
  cases h
  rfl
theorem cadastrelaw3_LogicNulls_eq (k : Nat) (l0 : List S25) : bodyK UX (cadastrelaw3_LogicNulls_cfg k) (cadastrelaw3_LogicNulls_G k) Try.f5 [.pv (.typ (.l25 l0))] [] cadastrelaw3_LogicNulls_dec = cadastrelaw3_LogicNulls k l0 := by kernel_rfl
theorem cadastrelaw3_LogicNulls_con (k : Nat) (l0 : List S25) (r : Bool) (h : cadastrelaw3_LogicNulls k l0 = some r) : Con (X := UX) Try.prog 5 [.pv (.typ (.l25 l0))] [] (cadastrelaw3_LogicNulls_enc r) [] :=
  con_of_body xok tok Try.func5 cadastrelaw3_LogicNulls_body (cadastrelaw3_LogicNulls_gok k) rfl (cadastrelaw3_LogicNulls_cok k) (of_decide_eq_true (by kernel_rfl)) cadastrelaw3_LogicNulls_dec_enc ((cadastrelaw3_LogicNulls_eq k l0).trans h)
noncomputable def cadastrelaw3_LogicNulls_an {ρ : Type} (k : Nat) : An UX ρ := fun args bx K =>
popA args fun v1 a2 =>
as_l25 v1 fun l0 =>
popN a2 <|
popN bx <|
(cadastrelaw3_LogicNulls k l0).bind fun r => K (cadastrelaw3_LogicNulls_enc r) []
theorem cadastrelaw3_LogicNulls_ok {ρ : Type} (k : Nat) : AnsOK Try.prog 5 (cadastrelaw3_LogicNulls_an (ρ := ρ) k) := by
  intro args bx K r h
  unfold cadastrelaw3_LogicNulls_an at h
  replace h := popA_inv h; obtain ⟨v1, a2, rfl, h⟩ := h
  replace h := as_l25_inv h; obtain ⟨l0, rfl, h⟩ := h
  replace h := popN_inv h; obtain ⟨rfl, h⟩ := h
  replace h := popN_inv h; obtain ⟨rfl, h⟩ := h
  replace h := bind_inv h
  obtain ⟨x, hx, h⟩ := h
  exact ⟨there_of Try.func5 (by kernel_rfl) cadastrelaw3_LogicNulls_body, _, _, h, cadastrelaw3_LogicNulls_con k l0 x hx⟩

/-! cadastre/cadastreref2.Truth -/
noncomputable def cadastreref2_Truth_code : Code := match Try.f24.body with | some c => c | none => .skip
theorem cadastreref2_Truth_body : Try.f24.body = some cadastreref2_Truth_code := by kernel_rfl
noncomputable def cadastreref2_Truth_G {ρ : Type} (k : Nat) : Ans UX ρ := gnil
theorem cadastreref2_Truth_gok {ρ : Type} (k : Nat) : GOK Try.prog (cadastreref2_Truth_G (ρ := ρ) k) := gok_nil
noncomputable def cadastreref2_Truth_cfg {ρ : Type} (k : Nat) : Cfg UX ρ where
  live i := (assoc [(0, [0]), (1, [1]), (2, [1, 4]), (3, []), (4, [1, 4]), (5, [1]), (6, []), (7, []), (8, [])] i).getD []
  boxes i := (assoc [(0, []), (1, [1]), (2, [1]), (3, []), (4, [1]), (5, [1]), (6, []), (7, []), (8, [])] i).getD []
  tk _ := []
  n := 12
  labelR l := (assoc [] l).getD 0
  loops := assoc []
  labels := assoc []
  joins := assoc []
  xl i e := match e with
    | .nxt => assoc [] i
    | .ret => assoc [] i
    | .exit j => (assoc [] i).bind fun l => assoc l j
    | .goto j => (assoc [] i).bind fun l => assoc l j
noncomputable def cadastreref2_Truth_L : List Code := selI [] (loopsOf cadastreref2_Truth_code)
noncomputable def cadastreref2_Truth_J : List Code := selI [] (joinsOf cadastreref2_Truth_code)
noncomputable def cadastreref2_Truth_S : List Code := scopesOf cadastreref2_Truth_code
theorem cadastreref2_Truth_cok {ρ : Type} (k : Nat) : COK (cadastreref2_Truth_cfg (ρ := ρ) k) (cadastreref2_Truth_G k) cadastreref2_Truth_code :=
  cok_of (tl := []) (tj := []) (tb := []) rfl rfl rfl (nil_all (by kernel_rfl)) (nil_all (by kernel_rfl)) (fun p hp => by cases hp)
noncomputable def cadastreref2_Truth_enc (r : Int) : AV UU := .pv (.int .i64 r)
noncomputable def cadastreref2_Truth_dec (v : AV UU) (_ : List (List (AV UU))) : Option Int :=
asI .i64 v fun r0 =>
some r0
theorem cadastreref2_Truth_dec_enc (v : AV UU) (b : List (List (AV UU))) (r : Int) (h : cadastreref2_Truth_dec v b = some r) : v = cadastreref2_Truth_enc r := by
  unfold cadastreref2_Truth_dec at h
  replace h := asI_inv h; obtain ⟨r0, rfl, h⟩ := h
  cases h
  rfl
theorem cadastreref2_Truth_eq (k : Nat) (v0 : S23) : bodyK UX (cadastreref2_Truth_cfg k) (cadastreref2_Truth_G k) Try.f24 [.pv (.typ (.s23 v0))] [] cadastreref2_Truth_dec = cadastreref2_Truth k v0 := by kernel_rfl
theorem cadastreref2_Truth_con (k : Nat) (v0 : S23) (r : Int) (h : cadastreref2_Truth k v0 = some r) : Con (X := UX) Try.prog 24 [.pv (.typ (.s23 v0))] [] (cadastreref2_Truth_enc r) [] :=
  con_of_body xok tok Try.func24 cadastreref2_Truth_body (cadastreref2_Truth_gok k) rfl (cadastreref2_Truth_cok k) (of_decide_eq_true (by kernel_rfl)) cadastreref2_Truth_dec_enc ((cadastreref2_Truth_eq k v0).trans h)
noncomputable def cadastreref2_Truth_an {ρ : Type} (k : Nat) : An UX ρ := fun args bx K =>
popA args fun v1 a2 =>
as_s23 v1 fun v0 =>
popN a2 <|
popN bx <|
(cadastreref2_Truth k v0).bind fun r => K (cadastreref2_Truth_enc r) []
theorem cadastreref2_Truth_ok {ρ : Type} (k : Nat) : AnsOK Try.prog 24 (cadastreref2_Truth_an (ρ := ρ) k) := by
  intro args bx K r h
  unfold cadastreref2_Truth_an at h
  replace h := popA_inv h; obtain ⟨v1, a2, rfl, h⟩ := h
  replace h := as_s23_inv h; obtain ⟨v0, rfl, h⟩ := h
  replace h := popN_inv h; obtain ⟨rfl, h⟩ := h
  replace h := popN_inv h; obtain ⟨rfl, h⟩ := h
  replace h := bind_inv h
  obtain ⟨x, hx, h⟩ := h
  exact ⟨there_of Try.func24 (by kernel_rfl) cadastreref2_Truth_body, _, _, h, cadastreref2_Truth_con k v0 x hx⟩

/-! cadastre/cadastreref2.told -/
noncomputable def cadastreref2_told_code : Code := match Try.f45.body with | some c => c | none => .skip
theorem cadastreref2_told_body : Try.f45.body = some cadastreref2_told_code := by kernel_rfl
noncomputable def cadastreref2_told_G {ρ : Type} (k : Nat) : Ans UX ρ := gk 18 (cadastreref2_Int_an k) (gnil)
theorem cadastreref2_told_gok {ρ : Type} (k : Nat) : GOK Try.prog (cadastreref2_told_G (ρ := ρ) k) := gok_cons (cadastreref2_Int_ok k) (gok_nil)
noncomputable def cadastreref2_told_cfg {ρ : Type} (k : Nat) : Cfg UX ρ where
  live i := (assoc [(0, [0]), (1, [0, 2]), (2, [2]), (3, [0, 2])] i).getD []
  boxes i := (assoc [(0, []), (1, [2]), (2, [2]), (3, [2])] i).getD []
  tk _ := []
  n := 8
  labelR l := (assoc [] l).getD 0
  loops := assoc []
  labels := assoc []
  joins := assoc []
  xl i e := match e with
    | .nxt => assoc [] i
    | .ret => assoc [] i
    | .exit j => (assoc [] i).bind fun l => assoc l j
    | .goto j => (assoc [] i).bind fun l => assoc l j
noncomputable def cadastreref2_told_L : List Code := selI [] (loopsOf cadastreref2_told_code)
noncomputable def cadastreref2_told_J : List Code := selI [] (joinsOf cadastreref2_told_code)
noncomputable def cadastreref2_told_S : List Code := scopesOf cadastreref2_told_code
theorem cadastreref2_told_cok {ρ : Type} (k : Nat) : COK (cadastreref2_told_cfg (ρ := ρ) k) (cadastreref2_told_G k) cadastreref2_told_code :=
  cok_of (tl := []) (tj := []) (tb := []) rfl rfl rfl (nil_all (by kernel_rfl)) (nil_all (by kernel_rfl)) (fun p hp => by cases hp)
noncomputable def cadastreref2_told_enc (r : S23) : AV UU := .pv (.typ (.s23 r))
noncomputable def cadastreref2_told_dec (v : AV UU) (_ : List (List (AV UU))) : Option S23 :=
as_s23 v fun r0 =>
some r0
theorem cadastreref2_told_dec_enc (v : AV UU) (b : List (List (AV UU))) (r : S23) (h : cadastreref2_told_dec v b = some r) : v = cadastreref2_told_enc r := by
  unfold cadastreref2_told_dec at h
  replace h := as_s23_inv h; obtain ⟨r0, rfl, h⟩ := h
  cases h
  rfl
theorem cadastreref2_told_eq (k : Nat) (t0 : Int) : bodyK UX (cadastreref2_told_cfg k) (cadastreref2_told_G k) Try.f45 [.pv (.int .i64 t0)] [] cadastreref2_told_dec = cadastreref2_told k t0 := by kernel_rfl
theorem cadastreref2_told_con (k : Nat) (t0 : Int) (r : S23) (h : cadastreref2_told k t0 = some r) : Con (X := UX) Try.prog 45 [.pv (.int .i64 t0)] [] (cadastreref2_told_enc r) [] :=
  con_of_body xok tok Try.func45 cadastreref2_told_body (cadastreref2_told_gok k) rfl (cadastreref2_told_cok k) (of_decide_eq_true (by kernel_rfl)) cadastreref2_told_dec_enc ((cadastreref2_told_eq k t0).trans h)
noncomputable def cadastreref2_told_an {ρ : Type} (k : Nat) : An UX ρ := fun args bx K =>
popA args fun v1 a2 =>
asI .i64 v1 fun t0 =>
popN a2 <|
popN bx <|
(cadastreref2_told k t0).bind fun r => K (cadastreref2_told_enc r) []
theorem cadastreref2_told_ok {ρ : Type} (k : Nat) : AnsOK Try.prog 45 (cadastreref2_told_an (ρ := ρ) k) := by
  intro args bx K r h
  unfold cadastreref2_told_an at h
  replace h := popA_inv h; obtain ⟨v1, a2, rfl, h⟩ := h
  replace h := asI_inv h; obtain ⟨t0, rfl, h⟩ := h
  replace h := popN_inv h; obtain ⟨rfl, h⟩ := h
  replace h := popN_inv h; obtain ⟨rfl, h⟩ := h
  replace h := bind_inv h
  obtain ⟨x, hx, h⟩ := h
  exact ⟨there_of Try.func45 (by kernel_rfl) cadastreref2_told_body, _, _, h, cadastreref2_told_con k t0 x hx⟩

/-! cadastre/cadastreref2.Not -/
noncomputable def cadastreref2_Not_code : Code := match Try.f25.body with | some c => c | none => .skip
theorem cadastreref2_Not_body : Try.f25.body = some cadastreref2_Not_code := by kernel_rfl
noncomputable def cadastreref2_Not_G {ρ : Type} (k : Nat) : Ans UX ρ := gk 24 (cadastreref2_Truth_an k) (gk 45 (cadastreref2_told_an k) (gnil))
theorem cadastreref2_Not_gok {ρ : Type} (k : Nat) : GOK Try.prog (cadastreref2_Not_G (ρ := ρ) k) := gok_cons (cadastreref2_Truth_ok k) (gok_cons (cadastreref2_told_ok k) (gok_nil))
noncomputable def cadastreref2_Not_cfg {ρ : Type} (k : Nat) : Cfg UX ρ where
  live i := (assoc [(0, [0]), (1, [1, 2]), (2, [1, 2, 5]), (3, [2]), (4, [1, 2, 5]), (5, [2]), (6, [1, 2])] i).getD []
  boxes i := (assoc [(0, []), (1, [1, 2]), (2, [1, 2]), (3, [2]), (4, [1, 2]), (5, [2]), (6, [1, 2])] i).getD []
  tk _ := []
  n := 16
  labelR l := (assoc [] l).getD 0
  loops := assoc []
  labels := assoc []
  joins := assoc []
  xl i e := match e with
    | .nxt => assoc [] i
    | .ret => assoc [] i
    | .exit j => (assoc [] i).bind fun l => assoc l j
    | .goto j => (assoc [] i).bind fun l => assoc l j
noncomputable def cadastreref2_Not_L : List Code := selI [] (loopsOf cadastreref2_Not_code)
noncomputable def cadastreref2_Not_J : List Code := selI [] (joinsOf cadastreref2_Not_code)
noncomputable def cadastreref2_Not_S : List Code := scopesOf cadastreref2_Not_code
theorem cadastreref2_Not_cok {ρ : Type} (k : Nat) : COK (cadastreref2_Not_cfg (ρ := ρ) k) (cadastreref2_Not_G k) cadastreref2_Not_code :=
  cok_of (tl := []) (tj := []) (tb := []) rfl rfl rfl (nil_all (by kernel_rfl)) (nil_all (by kernel_rfl)) (fun p hp => by cases hp)
noncomputable def cadastreref2_Not_enc (r : S23 × Int) : AV UU := .pv (.tup [.typ (.s23 r.1), .int .i64 r.2])
noncomputable def cadastreref2_Not_dec (v : AV UU) (_ : List (List (AV UU))) : Option (S23 × Int) :=
asT v fun q1 =>
popA q1 fun p2 q3 =>
as_s23 (.pv p2) fun r0 =>
popA q3 fun p4 q5 =>
asI .i64 (.pv p4) fun r1 =>
popN q5 <|
some (r0, r1)
theorem cadastreref2_Not_dec_enc (v : AV UU) (b : List (List (AV UU))) (r : S23 × Int) (h : cadastreref2_Not_dec v b = some r) : v = cadastreref2_Not_enc r := by
  unfold cadastreref2_Not_dec at h
  replace h := asT_inv h; obtain ⟨q1, rfl, h⟩ := h
  replace h := popA_inv h; obtain ⟨p2, q3, rfl, h⟩ := h
  replace h := as_s23_inv h; obtain ⟨r0, e, h⟩ := h; cases e
  replace h := popA_inv h; obtain ⟨p4, q5, rfl, h⟩ := h
  replace h := asI_inv h; obtain ⟨r1, e, h⟩ := h; cases e
  replace h := popN_inv h; obtain ⟨rfl, h⟩ := h
  cases h
  rfl
theorem cadastreref2_Not_eq (k : Nat) (v0 : S23) : bodyK UX (cadastreref2_Not_cfg k) (cadastreref2_Not_G k) Try.f25 [.pv (.typ (.s23 v0))] [] cadastreref2_Not_dec = cadastreref2_Not k v0 := by kernel_rfl
theorem cadastreref2_Not_con (k : Nat) (v0 : S23) (r : S23 × Int) (h : cadastreref2_Not k v0 = some r) : Con (X := UX) Try.prog 25 [.pv (.typ (.s23 v0))] [] (cadastreref2_Not_enc r) [] :=
  con_of_body xok tok Try.func25 cadastreref2_Not_body (cadastreref2_Not_gok k) rfl (cadastreref2_Not_cok k) (of_decide_eq_true (by kernel_rfl)) cadastreref2_Not_dec_enc ((cadastreref2_Not_eq k v0).trans h)
noncomputable def cadastreref2_Not_an {ρ : Type} (k : Nat) : An UX ρ := fun args bx K =>
popA args fun v1 a2 =>
as_s23 v1 fun v0 =>
popN a2 <|
popN bx <|
(cadastreref2_Not k v0).bind fun r => K (cadastreref2_Not_enc r) []
theorem cadastreref2_Not_ok {ρ : Type} (k : Nat) : AnsOK Try.prog 25 (cadastreref2_Not_an (ρ := ρ) k) := by
  intro args bx K r h
  unfold cadastreref2_Not_an at h
  replace h := popA_inv h; obtain ⟨v1, a2, rfl, h⟩ := h
  replace h := as_s23_inv h; obtain ⟨v0, rfl, h⟩ := h
  replace h := popN_inv h; obtain ⟨rfl, h⟩ := h
  replace h := popN_inv h; obtain ⟨rfl, h⟩ := h
  replace h := bind_inv h
  obtain ⟨x, hx, h⟩ := h
  exact ⟨there_of Try.func25 (by kernel_rfl) cadastreref2_Not_body, _, _, h, cadastreref2_Not_con k v0 x hx⟩

/-! cadastre/cadastreref2.Join -/
noncomputable def cadastreref2_Join_code : Code := match Try.f26.body with | some c => c | none => .skip
theorem cadastreref2_Join_body : Try.f26.body = some cadastreref2_Join_code := by kernel_rfl
noncomputable def cadastreref2_Join_G {ρ : Type} (k : Nat) : Ans UX ρ := gk 24 (cadastreref2_Truth_an k) (gk 45 (cadastreref2_told_an k) (gnil))
theorem cadastreref2_Join_gok {ρ : Type} (k : Nat) : GOK Try.prog (cadastreref2_Join_G (ρ := ρ) k) := gok_cons (cadastreref2_Truth_ok k) (gok_cons (cadastreref2_told_ok k) (gok_nil))
noncomputable def cadastreref2_Join_j10_s {ρ : Type} (k : Nat) : Run UX ρ := fun s K =>
popS 6 s.env fun v1 e2 =>
asP 6 0 v1 <|
popS 8 e2 fun v3 e4 =>
asI .i64 v3 fun x8 =>
popS 9 e4 fun v5 e6 =>
asI .i64 v5 fun y9 =>
popS 10 e6 fun v7 e8 =>
asI .i64 v7 fun strong10 =>
popN e8 <|
popB 6 s.hp fun c9 e10 =>
popA c9 fun v11 c12 =>
asI .i64 v11 fun z13 =>
popA c12 fun v14 c15 =>
asI .i64 v14 fun z16 =>
popA c15 fun v17 c18 =>
asS v17 fun z19 =>
popN c18 <|
popN e10 <|
cadastreref2_Join_j10 k (fun t7 t6 => K .ret ⟨[(6, .ptr 6 0), (7, .pv (.int .i64 t7))], [(6, [.pv (.int .i64 t6.f0), .pv (.int .i64 t6.f1), .pv (.str t6.f2)])]⟩) (fun strong10 t6 => K .nxt ⟨[(6, .ptr 6 0), (10, .pv (.int .i64 strong10))], [(6, [.pv (.int .i64 t6.f0), .pv (.int .i64 t6.f1), .pv (.str t6.f2)])]⟩) x8 y9 strong10 (⟨z13, z16, z19⟩ : S23)
noncomputable def cadastreref2_Join_j8_s {ρ : Type} (k : Nat) : Run UX ρ := fun s K =>
popS 6 s.env fun v1 e2 =>
asP 6 0 v1 <|
popS 8 e2 fun v3 e4 =>
asI .i64 v3 fun x8 =>
popS 9 e4 fun v5 e6 =>
asI .i64 v5 fun y9 =>
popS 10 e6 fun v7 e8 =>
asI .i64 v7 fun strong10 =>
popN e8 <|
popB 6 s.hp fun c9 e10 =>
popA c9 fun v11 c12 =>
asI .i64 v11 fun z13 =>
popA c12 fun v14 c15 =>
asI .i64 v14 fun z16 =>
popA c15 fun v17 c18 =>
asS v17 fun z19 =>
popN c18 <|
popN e10 <|
cadastreref2_Join_j8 k (fun t7 t6 => K .ret ⟨[(6, .ptr 6 0), (7, .pv (.int .i64 t7))], [(6, [.pv (.int .i64 t6.f0), .pv (.int .i64 t6.f1), .pv (.str t6.f2)])]⟩) x8 y9 strong10 (⟨z13, z16, z19⟩ : S23)
noncomputable def cadastreref2_Join_j5_s {ρ : Type} (k : Nat) : Run UX ρ := fun s K =>
popS 0 s.env fun v1 e2 =>
asI .i64 v1 fun op0 =>
popS 6 e2 fun v3 e4 =>
asP 6 0 v3 <|
popS 8 e4 fun v5 e6 =>
asI .i64 v5 fun x8 =>
popS 9 e6 fun v7 e8 =>
asI .i64 v7 fun y9 =>
popN e8 <|
popB 6 s.hp fun c9 e10 =>
popA c9 fun v11 c12 =>
asI .i64 v11 fun z13 =>
popA c12 fun v14 c15 =>
asI .i64 v14 fun z16 =>
popA c15 fun v17 c18 =>
asS v17 fun z19 =>
popN c18 <|
popN e10 <|
cadastreref2_Join_j5 k (fun t7 t6 => K .ret ⟨[(6, .ptr 6 0), (7, .pv (.int .i64 t7))], [(6, [.pv (.int .i64 t6.f0), .pv (.int .i64 t6.f1), .pv (.str t6.f2)])]⟩) op0 x8 y9 (⟨z13, z16, z19⟩ : S23)
noncomputable def cadastreref2_Join_cfg {ρ : Type} (k : Nat) : Cfg UX ρ where
  live i := (assoc [(0, [0, 1, 2]), (1, [0, 4, 5, 6]), (2, [0, 5, 6, 8]), (3, [0, 6, 8, 9]), (4, [6]), (5, [0, 6, 8, 9]), (6, [0, 6, 8, 9, 10]), (7, [6, 8, 9]), (8, [6, 8, 9, 10]), (9, [6, 10]), (10, [6, 8, 9, 10]), (11, [6]), (12, [6, 10])] i).getD []
  boxes i := (assoc [(0, []), (1, [4, 5, 6]), (2, [5, 6]), (3, [6]), (4, [6]), (5, [6]), (6, [6]), (7, [6]), (8, [6]), (9, [6]), (10, [6]), (11, [6]), (12, [6])] i).getD []
  tk _ := []
  n := 46
  labelR l := (assoc [] l).getD 0
  loops := assoc []
  labels := assoc []
  joins := assoc [(10, cadastreref2_Join_j10_s k), (8, cadastreref2_Join_j8_s k), (5, cadastreref2_Join_j5_s k)]
  xl i e := match e with
    | .nxt => assoc [(10, ([6, 10], [6]))] i
    | .ret => assoc [(10, ([6, 7], [6])), (8, ([6, 7], [6])), (5, ([6, 7], [6]))] i
    | .exit j => (assoc [] i).bind fun l => assoc l j
    | .goto j => (assoc [] i).bind fun l => assoc l j
noncomputable def cadastreref2_Join_L : List Code := selI [] (loopsOf cadastreref2_Join_code)
noncomputable def cadastreref2_Join_J : List Code := selI [10, 8, 5] (joinsOf cadastreref2_Join_code)
noncomputable def cadastreref2_Join_S : List Code := scopesOf cadastreref2_Join_code
theorem cadastreref2_Join_j5_eq0 {ρ : Type} (k : Nat) (K : Ex → St UU → Option ρ) (op0 : Int) (x8 : Int) (y9 : Int) (t6 : S23) : exec UX (cadastreref2_Join_cfg k) (cadastreref2_Join_G k) (cadastreref2_Join_J.getD 0 .skip) ⟨[(0, .pv (.int .i64 op0)), (6, .ptr 6 0), (8, .pv (.int .i64 x8)), (9, .pv (.int .i64 y9))], [(6, [.pv (.int .i64 t6.f0), .pv (.int .i64 t6.f1), .pv (.str t6.f2)])]⟩ (nrmK UX (cadastreref2_Join_cfg k) 5 K) = cadastreref2_Join_j5 k (fun t7 t6 => K .ret ⟨[(6, .ptr 6 0), (7, .pv (.int .i64 t7))], [(6, [.pv (.int .i64 t6.f0), .pv (.int .i64 t6.f1), .pv (.str t6.f2)])]⟩) op0 x8 y9 t6 := by kernel_rfl
theorem cadastreref2_Join_j5_ok0 {ρ : Type} (k : Nat) : JoinOK UX (cadastreref2_Join_cfg (ρ := ρ) k) (cadastreref2_Join_G k) (cadastreref2_Join_J.getD 0 .skip) 5 (cadastreref2_Join_j5_s k) := by
  intro s K r h
  obtain ⟨env, hp⟩ := s
  unfold cadastreref2_Join_j5_s at h
  replace h := popS_inv h; obtain ⟨v1, e2, rfl, h⟩ := h
  replace h := asI_inv h; obtain ⟨op0, rfl, h⟩ := h
  replace h := popS_inv h; obtain ⟨v3, e4, rfl, h⟩ := h
  replace h := asP_inv h; obtain ⟨rfl, h⟩ := h
  replace h := popS_inv h; obtain ⟨v5, e6, rfl, h⟩ := h
  replace h := asI_inv h; obtain ⟨x8, rfl, h⟩ := h
  replace h := popS_inv h; obtain ⟨v7, e8, rfl, h⟩ := h
  replace h := asI_inv h; obtain ⟨y9, rfl, h⟩ := h
  replace h := popN_inv h; obtain ⟨rfl, h⟩ := h
  replace h := popB_inv h; obtain ⟨c9, e10, rfl, h⟩ := h
  replace h := popA_inv h; obtain ⟨v11, c12, rfl, h⟩ := h
  replace h := asI_inv h; obtain ⟨z13, rfl, h⟩ := h
  replace h := popA_inv h; obtain ⟨v14, c15, rfl, h⟩ := h
  replace h := asI_inv h; obtain ⟨z16, rfl, h⟩ := h
  replace h := popA_inv h; obtain ⟨v17, c18, rfl, h⟩ := h
  replace h := asS_inv h; obtain ⟨z19, rfl, h⟩ := h
  replace h := popN_inv h; obtain ⟨rfl, h⟩ := h
  replace h := popN_inv h; obtain ⟨rfl, h⟩ := h
  exact (cadastreref2_Join_j5_eq0 k K op0 x8 y9 (⟨z13, z16, z19⟩ : S23)).trans h
theorem cadastreref2_Join_j8_eq1 {ρ : Type} (k : Nat) (K : Ex → St UU → Option ρ) (x8 : Int) (y9 : Int) (strong10 : Int) (t6 : S23) : exec UX (cadastreref2_Join_cfg k) (cadastreref2_Join_G k) (cadastreref2_Join_J.getD 1 .skip) ⟨[(6, .ptr 6 0), (8, .pv (.int .i64 x8)), (9, .pv (.int .i64 y9)), (10, .pv (.int .i64 strong10))], [(6, [.pv (.int .i64 t6.f0), .pv (.int .i64 t6.f1), .pv (.str t6.f2)])]⟩ (nrmK UX (cadastreref2_Join_cfg k) 8 K) = cadastreref2_Join_j8 k (fun t7 t6 => K .ret ⟨[(6, .ptr 6 0), (7, .pv (.int .i64 t7))], [(6, [.pv (.int .i64 t6.f0), .pv (.int .i64 t6.f1), .pv (.str t6.f2)])]⟩) x8 y9 strong10 t6 := by kernel_rfl
theorem cadastreref2_Join_j8_ok1 {ρ : Type} (k : Nat) : JoinOK UX (cadastreref2_Join_cfg (ρ := ρ) k) (cadastreref2_Join_G k) (cadastreref2_Join_J.getD 1 .skip) 8 (cadastreref2_Join_j8_s k) := by
  intro s K r h
  obtain ⟨env, hp⟩ := s
  unfold cadastreref2_Join_j8_s at h
  replace h := popS_inv h; obtain ⟨v1, e2, rfl, h⟩ := h
  replace h := asP_inv h; obtain ⟨rfl, h⟩ := h
  replace h := popS_inv h; obtain ⟨v3, e4, rfl, h⟩ := h
  replace h := asI_inv h; obtain ⟨x8, rfl, h⟩ := h
  replace h := popS_inv h; obtain ⟨v5, e6, rfl, h⟩ := h
  replace h := asI_inv h; obtain ⟨y9, rfl, h⟩ := h
  replace h := popS_inv h; obtain ⟨v7, e8, rfl, h⟩ := h
  replace h := asI_inv h; obtain ⟨strong10, rfl, h⟩ := h
  replace h := popN_inv h; obtain ⟨rfl, h⟩ := h
  replace h := popB_inv h; obtain ⟨c9, e10, rfl, h⟩ := h
  replace h := popA_inv h; obtain ⟨v11, c12, rfl, h⟩ := h
  replace h := asI_inv h; obtain ⟨z13, rfl, h⟩ := h
  replace h := popA_inv h; obtain ⟨v14, c15, rfl, h⟩ := h
  replace h := asI_inv h; obtain ⟨z16, rfl, h⟩ := h
  replace h := popA_inv h; obtain ⟨v17, c18, rfl, h⟩ := h
  replace h := asS_inv h; obtain ⟨z19, rfl, h⟩ := h
  replace h := popN_inv h; obtain ⟨rfl, h⟩ := h
  replace h := popN_inv h; obtain ⟨rfl, h⟩ := h
  exact (cadastreref2_Join_j8_eq1 k K x8 y9 strong10 (⟨z13, z16, z19⟩ : S23)).trans h
theorem cadastreref2_Join_j10_eq2 {ρ : Type} (k : Nat) (K : Ex → St UU → Option ρ) (x8 : Int) (y9 : Int) (strong10 : Int) (t6 : S23) : exec UX (cadastreref2_Join_cfg k) (cadastreref2_Join_G k) (cadastreref2_Join_J.getD 2 .skip) ⟨[(6, .ptr 6 0), (8, .pv (.int .i64 x8)), (9, .pv (.int .i64 y9)), (10, .pv (.int .i64 strong10))], [(6, [.pv (.int .i64 t6.f0), .pv (.int .i64 t6.f1), .pv (.str t6.f2)])]⟩ (nrmK UX (cadastreref2_Join_cfg k) 10 K) = cadastreref2_Join_j10 k (fun t7 t6 => K .ret ⟨[(6, .ptr 6 0), (7, .pv (.int .i64 t7))], [(6, [.pv (.int .i64 t6.f0), .pv (.int .i64 t6.f1), .pv (.str t6.f2)])]⟩) (fun strong10 t6 => K .nxt ⟨[(6, .ptr 6 0), (10, .pv (.int .i64 strong10))], [(6, [.pv (.int .i64 t6.f0), .pv (.int .i64 t6.f1), .pv (.str t6.f2)])]⟩) x8 y9 strong10 t6 := by kernel_rfl
theorem cadastreref2_Join_j10_ok2 {ρ : Type} (k : Nat) : JoinOK UX (cadastreref2_Join_cfg (ρ := ρ) k) (cadastreref2_Join_G k) (cadastreref2_Join_J.getD 2 .skip) 10 (cadastreref2_Join_j10_s k) := by
  intro s K r h
  obtain ⟨env, hp⟩ := s
  unfold cadastreref2_Join_j10_s at h
  replace h := popS_inv h; obtain ⟨v1, e2, rfl, h⟩ := h
  replace h := asP_inv h; obtain ⟨rfl, h⟩ := h
  replace h := popS_inv h; obtain ⟨v3, e4, rfl, h⟩ := h
  replace h := asI_inv h; obtain ⟨x8, rfl, h⟩ := h
  replace h := popS_inv h; obtain ⟨v5, e6, rfl, h⟩ := h
  replace h := asI_inv h; obtain ⟨y9, rfl, h⟩ := h
  replace h := popS_inv h; obtain ⟨v7, e8, rfl, h⟩ := h
  replace h := asI_inv h; obtain ⟨strong10, rfl, h⟩ := h
  replace h := popN_inv h; obtain ⟨rfl, h⟩ := h
  replace h := popB_inv h; obtain ⟨c9, e10, rfl, h⟩ := h
  replace h := popA_inv h; obtain ⟨v11, c12, rfl, h⟩ := h
  replace h := asI_inv h; obtain ⟨z13, rfl, h⟩ := h
  replace h := popA_inv h; obtain ⟨v14, c15, rfl, h⟩ := h
  replace h := asI_inv h; obtain ⟨z16, rfl, h⟩ := h
  replace h := popA_inv h; obtain ⟨v17, c18, rfl, h⟩ := h
  replace h := asS_inv h; obtain ⟨z19, rfl, h⟩ := h
  replace h := popN_inv h; obtain ⟨rfl, h⟩ := h
  replace h := popN_inv h; obtain ⟨rfl, h⟩ := h
  exact (cadastreref2_Join_j10_eq2 k K x8 y9 strong10 (⟨z13, z16, z19⟩ : S23)).trans h
theorem cadastreref2_Join_cok {ρ : Type} (k : Nat) : COK (cadastreref2_Join_cfg (ρ := ρ) k) (cadastreref2_Join_G k) cadastreref2_Join_code :=
  cok_of (tl := []) (tj := [(10, cadastreref2_Join_j10_s k), (8, cadastreref2_Join_j8_s k), (5, cadastreref2_Join_j5_s k)]) (tb := []) rfl rfl rfl (nil_all (by kernel_rfl)) (all_nth 3 (by kernel_rfl) ⟨join_case (by kernel_rfl) rfl (cadastreref2_Join_j10_ok2 k), join_case (by kernel_rfl) rfl (cadastreref2_Join_j8_ok1 k), join_case (by kernel_rfl) rfl (cadastreref2_Join_j5_ok0 k), trivial⟩) (fun p hp => by cases hp)
noncomputable def cadastreref2_Join_enc (r : S23 × Int) : AV UU := .pv (.tup [.typ (.s23 r.1), .int .i64 r.2])
noncomputable def cadastreref2_Join_dec (v : AV UU) (_ : List (List (AV UU))) : Option (S23 × Int) :=
asT v fun q1 =>
popA q1 fun p2 q3 =>
as_s23 (.pv p2) fun r0 =>
popA q3 fun p4 q5 =>
asI .i64 (.pv p4) fun r1 =>
popN q5 <|
some (r0, r1)
theorem cadastreref2_Join_dec_enc (v : AV UU) (b : List (List (AV UU))) (r : S23 × Int) (h : cadastreref2_Join_dec v b = some r) : v = cadastreref2_Join_enc r := by
  unfold cadastreref2_Join_dec at h
  replace h := asT_inv h; obtain ⟨q1, rfl, h⟩ := h
  replace h := popA_inv h; obtain ⟨p2, q3, rfl, h⟩ := h
  replace h := as_s23_inv h; obtain ⟨r0, e, h⟩ := h; cases e
  replace h := popA_inv h; obtain ⟨p4, q5, rfl, h⟩ := h
  replace h := asI_inv h; obtain ⟨r1, e, h⟩ := h; cases e
  replace h := popN_inv h; obtain ⟨rfl, h⟩ := h
  cases h
  rfl
theorem cadastreref2_Join_eq (k : Nat) (op0 : Int) (a1 : S23) (b2 : S23) : bodyK UX (cadastreref2_Join_cfg k) (cadastreref2_Join_G k) Try.f26 [.pv (.int .i64 op0), .pv (.typ (.s23 a1)), .pv (.typ (.s23 b2))] [] cadastreref2_Join_dec = cadastreref2_Join k op0 a1 b2 := by kernel_rfl
theorem cadastreref2_Join_con (k : Nat) (op0 : Int) (a1 : S23) (b2 : S23) (r : S23 × Int) (h : cadastreref2_Join k op0 a1 b2 = some r) : Con (X := UX) Try.prog 26 [.pv (.int .i64 op0), .pv (.typ (.s23 a1)), .pv (.typ (.s23 b2))] [] (cadastreref2_Join_enc r) [] :=
  con_of_body xok tok Try.func26 cadastreref2_Join_body (cadastreref2_Join_gok k) rfl (cadastreref2_Join_cok k) (of_decide_eq_true (by kernel_rfl)) cadastreref2_Join_dec_enc ((cadastreref2_Join_eq k op0 a1 b2).trans h)
noncomputable def cadastreref2_Join_an {ρ : Type} (k : Nat) : An UX ρ := fun args bx K =>
popA args fun v1 a2 =>
asI .i64 v1 fun op0 =>
popA a2 fun v3 a4 =>
as_s23 v3 fun a1 =>
popA a4 fun v5 a6 =>
as_s23 v5 fun b2 =>
popN a6 <|
popN bx <|
(cadastreref2_Join k op0 a1 b2).bind fun r => K (cadastreref2_Join_enc r) []
theorem cadastreref2_Join_ok {ρ : Type} (k : Nat) : AnsOK Try.prog 26 (cadastreref2_Join_an (ρ := ρ) k) := by
  intro args bx K r h
  unfold cadastreref2_Join_an at h
  replace h := popA_inv h; obtain ⟨v1, a2, rfl, h⟩ := h
  replace h := asI_inv h; obtain ⟨op0, rfl, h⟩ := h
  replace h := popA_inv h; obtain ⟨v3, a4, rfl, h⟩ := h
  replace h := as_s23_inv h; obtain ⟨a1, rfl, h⟩ := h
  replace h := popA_inv h; obtain ⟨v5, a6, rfl, h⟩ := h
  replace h := as_s23_inv h; obtain ⟨b2, rfl, h⟩ := h
  replace h := popN_inv h; obtain ⟨rfl, h⟩ := h
  replace h := popN_inv h; obtain ⟨rfl, h⟩ := h
  replace h := bind_inv h
  obtain ⟨x, hx, h⟩ := h
  exact ⟨there_of Try.func26 (by kernel_rfl) cadastreref2_Join_body, _, _, h, cadastreref2_Join_con k op0 a1 b2 x hx⟩

/-! cadastre/cadastreref0.Cmp -/
noncomputable def cadastreref0_Cmp_code : Code := match Try.f50.body with | some c => c | none => .skip
theorem cadastreref0_Cmp_body : Try.f50.body = some cadastreref0_Cmp_code := by kernel_rfl
noncomputable def cadastreref0_Cmp_G {ρ : Type} (k : Nat) : Ans UX ρ := gnil
theorem cadastreref0_Cmp_gok {ρ : Type} (k : Nat) : GOK Try.prog (cadastreref0_Cmp_G (ρ := ρ) k) := gok_nil
noncomputable def cadastreref0_Cmp_cfg {ρ : Type} (k : Nat) : Cfg UX ρ where
  live i := (assoc [(0, [0, 1]), (1, [0, 1]), (2, []), (3, [0, 1]), (4, []), (5, [])] i).getD []
  boxes i := (assoc [(0, []), (1, []), (2, []), (3, []), (4, []), (5, [])] i).getD []
  tk _ := []
  n := 13
  labelR l := (assoc [] l).getD 0
  loops := assoc []
  labels := assoc []
  joins := assoc []
  xl i e := match e with
    | .nxt => assoc [] i
    | .ret => assoc [] i
    | .exit j => (assoc [] i).bind fun l => assoc l j
    | .goto j => (assoc [] i).bind fun l => assoc l j
noncomputable def cadastreref0_Cmp_L : List Code := selI [] (loopsOf cadastreref0_Cmp_code)
noncomputable def cadastreref0_Cmp_J : List Code := selI [] (joinsOf cadastreref0_Cmp_code)
noncomputable def cadastreref0_Cmp_S : List Code := scopesOf cadastreref0_Cmp_code
theorem cadastreref0_Cmp_cok {ρ : Type} (k : Nat) : COK (cadastreref0_Cmp_cfg (ρ := ρ) k) (cadastreref0_Cmp_G k) cadastreref0_Cmp_code :=
  cok_of (tl := []) (tj := []) (tb := []) rfl rfl rfl (nil_all (by kernel_rfl)) (nil_all (by kernel_rfl)) (fun p hp => by cases hp)
noncomputable def cadastreref0_Cmp_enc (r : Int) : AV UU := .pv (.int .i64 r)
noncomputable def cadastreref0_Cmp_dec (v : AV UU) (_ : List (List (AV UU))) : Option Int :=
asI .i64 v fun r0 =>
some r0
theorem cadastreref0_Cmp_dec_enc (v : AV UU) (b : List (List (AV UU))) (r : Int) (h : cadastreref0_Cmp_dec v b = some r) : v = cadastreref0_Cmp_enc r := by
  unfold cadastreref0_Cmp_dec at h
  replace h := asI_inv h; obtain ⟨r0, rfl, h⟩ := h
  cases h
  rfl
theorem cadastreref0_Cmp_eq (k : Nat) (a0 : ByteArray) (b1 : ByteArray) : bodyK UX (cadastreref0_Cmp_cfg k) (cadastreref0_Cmp_G k) Try.f50 [.pv (.str a0), .pv (.str b1)] [] cadastreref0_Cmp_dec = cadastreref0_Cmp k a0 b1 := by kernel_rfl
theorem cadastreref0_Cmp_con (k : Nat) (a0 : ByteArray) (b1 : ByteArray) (r : Int) (h : cadastreref0_Cmp k a0 b1 = some r) : Con (X := UX) Try.prog 50 [.pv (.str a0), .pv (.str b1)] [] (cadastreref0_Cmp_enc r) [] :=
  con_of_body xok tok Try.func50 cadastreref0_Cmp_body (cadastreref0_Cmp_gok k) rfl (cadastreref0_Cmp_cok k) (of_decide_eq_true (by kernel_rfl)) cadastreref0_Cmp_dec_enc ((cadastreref0_Cmp_eq k a0 b1).trans h)
noncomputable def cadastreref0_Cmp_an {ρ : Type} (k : Nat) : An UX ρ := fun args bx K =>
popA args fun v1 a2 =>
asS v1 fun a0 =>
popA a2 fun v3 a4 =>
asS v3 fun b1 =>
popN a4 <|
popN bx <|
(cadastreref0_Cmp k a0 b1).bind fun r => K (cadastreref0_Cmp_enc r) []
theorem cadastreref0_Cmp_ok {ρ : Type} (k : Nat) : AnsOK Try.prog 50 (cadastreref0_Cmp_an (ρ := ρ) k) := by
  intro args bx K r h
  unfold cadastreref0_Cmp_an at h
  replace h := popA_inv h; obtain ⟨v1, a2, rfl, h⟩ := h
  replace h := asS_inv h; obtain ⟨a0, rfl, h⟩ := h
  replace h := popA_inv h; obtain ⟨v3, a4, rfl, h⟩ := h
  replace h := asS_inv h; obtain ⟨b1, rfl, h⟩ := h
  replace h := popN_inv h; obtain ⟨rfl, h⟩ := h
  replace h := popN_inv h; obtain ⟨rfl, h⟩ := h
  replace h := bind_inv h
  obtain ⟨x, hx, h⟩ := h
  exact ⟨there_of Try.func50 (by kernel_rfl) cadastreref0_Cmp_body, _, _, h, cadastreref0_Cmp_con k a0 b1 x hx⟩

/-! cadastre/cadastreref2.Cmp -/
noncomputable def cadastreref2_Cmp_code : Code := match Try.f46.body with | some c => c | none => .skip
theorem cadastreref2_Cmp_body : Try.f46.body = some cadastreref2_Cmp_code := by kernel_rfl
noncomputable def cadastreref2_Cmp_G {ρ : Type} (k : Nat) : Ans UX ρ := gk 50 (cadastreref0_Cmp_an k) (gnil)
theorem cadastreref2_Cmp_gok {ρ : Type} (k : Nat) : GOK Try.prog (cadastreref2_Cmp_G (ρ := ρ) k) := gok_cons (cadastreref0_Cmp_ok k) (gok_nil)
noncomputable def cadastreref2_Cmp_j3_s {ρ : Type} (k : Nat) : Run UX ρ := fun s K =>
popS 2 s.env fun v1 e2 =>
asP 2 0 v1 <|
popS 3 e2 fun v3 e4 =>
asP 3 0 v3 <|
popN e4 <|
popB 2 s.hp fun c5 e6 =>
popA c5 fun v7 c8 =>
asI .i64 v7 fun z9 =>
popA c8 fun v10 c11 =>
asI .i64 v10 fun z12 =>
popA c11 fun v13 c14 =>
asS v13 fun z15 =>
popN c14 <|
popB 3 e6 fun c16 e17 =>
popA c16 fun v18 c19 =>
asI .i64 v18 fun z20 =>
popA c19 fun v21 c22 =>
asI .i64 v21 fun z23 =>
popA c22 fun v24 c25 =>
asS v24 fun z26 =>
popN c25 <|
popN e17 <|
cadastreref2_Cmp_j3 k (fun t4 => K .ret ⟨[(4, .pv (.int .i64 t4))], []⟩) (fun a2 b3 => K .nxt ⟨[(2, .ptr 2 0), (3, .ptr 3 0)], [(2, [.pv (.int .i64 a2.f0), .pv (.int .i64 a2.f1), .pv (.str a2.f2)]), (3, [.pv (.int .i64 b3.f0), .pv (.int .i64 b3.f1), .pv (.str b3.f2)])]⟩) (⟨z9, z12, z15⟩ : S23) (⟨z20, z23, z26⟩ : S23)
noncomputable def cadastreref2_Cmp_cfg {ρ : Type} (k : Nat) : Cfg UX ρ where
  live i := (assoc [(0, [0, 1]), (1, [2, 3]), (2, []), (3, [2, 3]), (4, []), (5, [2, 3])] i).getD []
  boxes i := (assoc [(0, []), (1, [2, 3]), (2, []), (3, [2, 3]), (4, []), (5, [2, 3])] i).getD []
  tk _ := []
  n := 43
  labelR l := (assoc [] l).getD 0
  loops := assoc []
  labels := assoc []
  joins := assoc [(3, cadastreref2_Cmp_j3_s k)]
  xl i e := match e with
    | .nxt => assoc [(3, ([2, 3], [2, 3]))] i
    | .ret => assoc [(3, ([4], []))] i
    | .exit j => (assoc [] i).bind fun l => assoc l j
    | .goto j => (assoc [] i).bind fun l => assoc l j
noncomputable def cadastreref2_Cmp_L : List Code := selI [] (loopsOf cadastreref2_Cmp_code)
noncomputable def cadastreref2_Cmp_J : List Code := selI [3] (joinsOf cadastreref2_Cmp_code)
noncomputable def cadastreref2_Cmp_S : List Code := scopesOf cadastreref2_Cmp_code
theorem cadastreref2_Cmp_j3_eq0 {ρ : Type} (k : Nat) (K : Ex → St UU → Option ρ) (a2 : S23) (b3 : S23) : exec UX (cadastreref2_Cmp_cfg k) (cadastreref2_Cmp_G k) (cadastreref2_Cmp_J.getD 0 .skip) ⟨[(2, .ptr 2 0), (3, .ptr 3 0)], [(2, [.pv (.int .i64 a2.f0), .pv (.int .i64 a2.f1), .pv (.str a2.f2)]), (3, [.pv (.int .i64 b3.f0), .pv (.int .i64 b3.f1), .pv (.str b3.f2)])]⟩ (nrmK UX (cadastreref2_Cmp_cfg k) 3 K) = cadastreref2_Cmp_j3 k (fun t4 => K .ret ⟨[(4, .pv (.int .i64 t4))], []⟩) (fun a2 b3 => K .nxt ⟨[(2, .ptr 2 0), (3, .ptr 3 0)], [(2, [.pv (.int .i64 a2.f0), .pv (.int .i64 a2.f1), .pv (.str a2.f2)]), (3, [.pv (.int .i64 b3.f0), .pv (.int .i64 b3.f1), .pv (.str b3.f2)])]⟩) a2 b3 := by kernel_rfl
theorem cadastreref2_Cmp_j3_ok0 {ρ : Type} (k : Nat) : JoinOK UX (cadastreref2_Cmp_cfg (ρ := ρ) k) (cadastreref2_Cmp_G k) (cadastreref2_Cmp_J.getD 0 .skip) 3 (cadastreref2_Cmp_j3_s k) := by
  intro s K r h
  obtain ⟨env, hp⟩ := s
  unfold cadastreref2_Cmp_j3_s at h
  replace h := popS_inv h; obtain ⟨v1, e2, rfl, h⟩ := h
  replace h := asP_inv h; obtain ⟨rfl, h⟩ := h
  replace h := popS_inv h; obtain ⟨v3, e4, rfl, h⟩ := h
  replace h := asP_inv h; obtain ⟨rfl, h⟩ := h
  replace h := popN_inv h; obtain ⟨rfl, h⟩ := h
  replace h := popB_inv h; obtain ⟨c5, e6, rfl, h⟩ := h
  replace h := popA_inv h; obtain ⟨v7, c8, rfl, h⟩ := h
  replace h := asI_inv h; obtain ⟨z9, rfl, h⟩ := h
  replace h := popA_inv h; obtain ⟨v10, c11, rfl, h⟩ := h
  replace h := asI_inv h; obtain ⟨z12, rfl, h⟩ := h
  replace h := popA_inv h; obtain ⟨v13, c14, rfl, h⟩ := h
  replace h := asS_inv h; obtain ⟨z15, rfl, h⟩ := h
  replace h := popN_inv h; obtain ⟨rfl, h⟩ := h
  replace h := popB_inv h; obtain ⟨c16, e17, rfl, h⟩ := h
  replace h := popA_inv h; obtain ⟨v18, c19, rfl, h⟩ := h
  replace h := asI_inv h; obtain ⟨z20, rfl, h⟩ := h
  replace h := popA_inv h; obtain ⟨v21, c22, rfl, h⟩ := h
  replace h := asI_inv h; obtain ⟨z23, rfl, h⟩ := h
  replace h := popA_inv h; obtain ⟨v24, c25, rfl, h⟩ := h
  replace h := asS_inv h; obtain ⟨z26, rfl, h⟩ := h
  replace h := popN_inv h; obtain ⟨rfl, h⟩ := h
  replace h := popN_inv h; obtain ⟨rfl, h⟩ := h
  exact (cadastreref2_Cmp_j3_eq0 k K (⟨z9, z12, z15⟩ : S23) (⟨z20, z23, z26⟩ : S23)).trans h
theorem cadastreref2_Cmp_cok {ρ : Type} (k : Nat) : COK (cadastreref2_Cmp_cfg (ρ := ρ) k) (cadastreref2_Cmp_G k) cadastreref2_Cmp_code :=
  cok_of (tl := []) (tj := [(3, cadastreref2_Cmp_j3_s k)]) (tb := []) rfl rfl rfl (nil_all (by kernel_rfl)) (all_nth 1 (by kernel_rfl) ⟨join_case (by kernel_rfl) rfl (cadastreref2_Cmp_j3_ok0 k), trivial⟩) (fun p hp => by cases hp)
noncomputable def cadastreref2_Cmp_enc (r : Int) : AV UU := .pv (.int .i64 r)
noncomputable def cadastreref2_Cmp_dec (v : AV UU) (_ : List (List (AV UU))) : Option Int :=
asI .i64 v fun r0 =>
some r0
theorem cadastreref2_Cmp_dec_enc (v : AV UU) (b : List (List (AV UU))) (r : Int) (h : cadastreref2_Cmp_dec v b = some r) : v = cadastreref2_Cmp_enc r := by
  unfold cadastreref2_Cmp_dec at h
  replace h := asI_inv h; obtain ⟨r0, rfl, h⟩ := h
  cases h
  rfl
theorem cadastreref2_Cmp_eq (k : Nat) (a0 : S23) (b1 : S23) : bodyK UX (cadastreref2_Cmp_cfg k) (cadastreref2_Cmp_G k) Try.f46 [.pv (.typ (.s23 a0)), .pv (.typ (.s23 b1))] [] cadastreref2_Cmp_dec = cadastreref2_Cmp k a0 b1 := by kernel_rfl
theorem cadastreref2_Cmp_con (k : Nat) (a0 : S23) (b1 : S23) (r : Int) (h : cadastreref2_Cmp k a0 b1 = some r) : Con (X := UX) Try.prog 46 [.pv (.typ (.s23 a0)), .pv (.typ (.s23 b1))] [] (cadastreref2_Cmp_enc r) [] :=
  con_of_body xok tok Try.func46 cadastreref2_Cmp_body (cadastreref2_Cmp_gok k) rfl (cadastreref2_Cmp_cok k) (of_decide_eq_true (by kernel_rfl)) cadastreref2_Cmp_dec_enc ((cadastreref2_Cmp_eq k a0 b1).trans h)
noncomputable def cadastreref2_Cmp_an {ρ : Type} (k : Nat) : An UX ρ := fun args bx K =>
popA args fun v1 a2 =>
as_s23 v1 fun a0 =>
popA a2 fun v3 a4 =>
as_s23 v3 fun b1 =>
popN a4 <|
popN bx <|
(cadastreref2_Cmp k a0 b1).bind fun r => K (cadastreref2_Cmp_enc r) []
theorem cadastreref2_Cmp_ok {ρ : Type} (k : Nat) : AnsOK Try.prog 46 (cadastreref2_Cmp_an (ρ := ρ) k) := by
  intro args bx K r h
  unfold cadastreref2_Cmp_an at h
  replace h := popA_inv h; obtain ⟨v1, a2, rfl, h⟩ := h
  replace h := as_s23_inv h; obtain ⟨a0, rfl, h⟩ := h
  replace h := popA_inv h; obtain ⟨v3, a4, rfl, h⟩ := h
  replace h := as_s23_inv h; obtain ⟨b1, rfl, h⟩ := h
  replace h := popN_inv h; obtain ⟨rfl, h⟩ := h
  replace h := popN_inv h; obtain ⟨rfl, h⟩ := h
  replace h := bind_inv h
  obtain ⟨x, hx, h⟩ := h
  exact ⟨there_of Try.func46 (by kernel_rfl) cadastreref2_Cmp_body, _, _, h, cadastreref2_Cmp_con k a0 b1 x hx⟩

/-! cadastre/cadastreref2.Bool -/
noncomputable def cadastreref2_Bool_code : Code := match Try.f47.body with | some c => c | none => .skip
theorem cadastreref2_Bool_body : Try.f47.body = some cadastreref2_Bool_code := by kernel_rfl
noncomputable def cadastreref2_Bool_G {ρ : Type} (k : Nat) : Ans UX ρ := gk 18 (cadastreref2_Int_an k) (gnil)
theorem cadastreref2_Bool_gok {ρ : Type} (k : Nat) : GOK Try.prog (cadastreref2_Bool_G (ρ := ρ) k) := gok_cons (cadastreref2_Int_ok k) (gok_nil)
noncomputable def cadastreref2_Bool_cfg {ρ : Type} (k : Nat) : Cfg UX ρ where
  live i := (assoc [(0, [0]), (1, [0, 2]), (2, [2]), (3, [2])] i).getD []
  boxes i := (assoc [(0, []), (1, [2]), (2, [2]), (3, [2])] i).getD []
  tk _ := []
  n := 6
  labelR l := (assoc [] l).getD 0
  loops := assoc []
  labels := assoc []
  joins := assoc []
  xl i e := match e with
    | .nxt => assoc [] i
    | .ret => assoc [] i
    | .exit j => (assoc [] i).bind fun l => assoc l j
    | .goto j => (assoc [] i).bind fun l => assoc l j
noncomputable def cadastreref2_Bool_L : List Code := selI [] (loopsOf cadastreref2_Bool_code)
noncomputable def cadastreref2_Bool_J : List Code := selI [] (joinsOf cadastreref2_Bool_code)
noncomputable def cadastreref2_Bool_S : List Code := scopesOf cadastreref2_Bool_code
theorem cadastreref2_Bool_cok {ρ : Type} (k : Nat) : COK (cadastreref2_Bool_cfg (ρ := ρ) k) (cadastreref2_Bool_G k) cadastreref2_Bool_code :=
  cok_of (tl := []) (tj := []) (tb := []) rfl rfl rfl (nil_all (by kernel_rfl)) (nil_all (by kernel_rfl)) (fun p hp => by cases hp)
noncomputable def cadastreref2_Bool_enc (r : S23) : AV UU := .pv (.typ (.s23 r))
noncomputable def cadastreref2_Bool_dec (v : AV UU) (_ : List (List (AV UU))) : Option S23 :=
as_s23 v fun r0 =>
some r0
theorem cadastreref2_Bool_dec_enc (v : AV UU) (b : List (List (AV UU))) (r : S23) (h : cadastreref2_Bool_dec v b = some r) : v = cadastreref2_Bool_enc r := by
  unfold cadastreref2_Bool_dec at h
  replace h := as_s23_inv h; obtain ⟨r0, rfl, h⟩ := h
  cases h
  rfl
theorem cadastreref2_Bool_eq (k : Nat) (b0 : Bool) : bodyK UX (cadastreref2_Bool_cfg k) (cadastreref2_Bool_G k) Try.f47 [.pv (.bool b0)] [] cadastreref2_Bool_dec = cadastreref2_Bool k b0 := by kernel_rfl
theorem cadastreref2_Bool_con (k : Nat) (b0 : Bool) (r : S23) (h : cadastreref2_Bool k b0 = some r) : Con (X := UX) Try.prog 47 [.pv (.bool b0)] [] (cadastreref2_Bool_enc r) [] :=
  con_of_body xok tok Try.func47 cadastreref2_Bool_body (cadastreref2_Bool_gok k) rfl (cadastreref2_Bool_cok k) (of_decide_eq_true (by kernel_rfl)) cadastreref2_Bool_dec_enc ((cadastreref2_Bool_eq k b0).trans h)
noncomputable def cadastreref2_Bool_an {ρ : Type} (k : Nat) : An UX ρ := fun args bx K =>
popA args fun v1 a2 =>
asB v1 fun b0 =>
popN a2 <|
popN bx <|
(cadastreref2_Bool k b0).bind fun r => K (cadastreref2_Bool_enc r) []
theorem cadastreref2_Bool_ok {ρ : Type} (k : Nat) : AnsOK Try.prog 47 (cadastreref2_Bool_an (ρ := ρ) k) := by
  intro args bx K r h
  unfold cadastreref2_Bool_an at h
  replace h := popA_inv h; obtain ⟨v1, a2, rfl, h⟩ := h
  replace h := asB_inv h; obtain ⟨b0, rfl, h⟩ := h
  replace h := popN_inv h; obtain ⟨rfl, h⟩ := h
  replace h := popN_inv h; obtain ⟨rfl, h⟩ := h
  replace h := bind_inv h
  obtain ⟨x, hx, h⟩ := h
  exact ⟨there_of Try.func47 (by kernel_rfl) cadastreref2_Bool_body, _, _, h, cadastreref2_Bool_con k b0 x hx⟩

/-! cadastre/cadastreref2.Test -/
noncomputable def cadastreref2_Test_code : Code := match Try.f27.body with | some c => c | none => .skip
theorem cadastreref2_Test_body : Try.f27.body = some cadastreref2_Test_code := by kernel_rfl
noncomputable def cadastreref2_Test_G {ρ : Type} (k : Nat) : Ans UX ρ := gk 46 (cadastreref2_Cmp_an k) (gk 47 (cadastreref2_Bool_an k) (gnil))
theorem cadastreref2_Test_gok {ρ : Type} (k : Nat) : GOK Try.prog (cadastreref2_Test_G (ρ := ρ) k) := gok_cons (cadastreref2_Cmp_ok k) (gok_cons (cadastreref2_Bool_ok k) (gok_nil))
noncomputable def cadastreref2_Test_j3_s {ρ : Type} (k : Nat) : Run UX ρ := fun s K =>
popS 0 s.env fun v1 e2 =>
asI .i64 v1 fun op0 =>
popS 4 e2 fun v3 e4 =>
asP 4 0 v3 <|
popS 5 e4 fun v5 e6 =>
asP 5 0 v5 <|
popS 6 e6 fun v7 e8 =>
asP 6 0 v7 <|
popN e8 <|
popB 4 s.hp fun c9 e10 =>
popA c9 fun v11 c12 =>
asI .i64 v11 fun z13 =>
popA c12 fun v14 c15 =>
asI .i64 v14 fun z16 =>
popA c15 fun v17 c18 =>
asS v17 fun z19 =>
popN c18 <|
popB 5 e10 fun c20 e21 =>
popA c20 fun v22 c23 =>
asI .i64 v22 fun z24 =>
popA c23 fun v25 c26 =>
asI .i64 v25 fun z27 =>
popA c26 fun v28 c29 =>
asS v28 fun z30 =>
popN c29 <|
popB 6 e21 fun c31 e32 =>
popA c31 fun v33 c34 =>
asI .i64 v33 fun z35 =>
popA c34 fun v36 c37 =>
asI .i64 v36 fun z38 =>
popA c37 fun v39 c40 =>
asS v39 fun z41 =>
popN c40 <|
popN e32 <|
cadastreref2_Test_j3 k (fun t6 => K .ret ⟨[(6, .ptr 6 0)], [(6, [.pv (.int .i64 t6.f0), .pv (.int .i64 t6.f1), .pv (.str t6.f2)])]⟩) op0 (⟨z13, z16, z19⟩ : S23) (⟨z24, z27, z30⟩ : S23) (⟨z35, z38, z41⟩ : S23)
noncomputable def cadastreref2_Test_cfg {ρ : Type} (k : Nat) : Cfg UX ρ where
  live i := (assoc [(0, [0, 1, 2]), (1, [0, 4, 5, 6]), (2, [6]), (3, [0, 4, 5, 6]), (4, [0, 6, 7]), (5, [6, 7, 20]), (6, [6, 7]), (7, [6, 7, 20]), (8, [6, 7]), (9, [6, 7, 20]), (10, [6, 7]), (11, [6, 7, 20]), (12, [6, 7]), (13, [6, 7, 20]), (14, [6, 7]), (15, [6, 7])] i).getD []
  boxes i := (assoc [(0, []), (1, [4, 5, 6]), (2, [6]), (3, [4, 5, 6]), (4, [6]), (5, [6]), (6, [6]), (7, [6]), (8, [6]), (9, [6]), (10, [6]), (11, [6]), (12, [6]), (13, [6]), (14, [6]), (15, [6])] i).getD []
  tk _ := []
  n := 49
  labelR l := (assoc [] l).getD 0
  loops := assoc []
  labels := assoc []
  joins := assoc [(3, cadastreref2_Test_j3_s k)]
  xl i e := match e with
    | .nxt => assoc [] i
    | .ret => assoc [(3, ([6], [6]))] i
    | .exit j => (assoc [] i).bind fun l => assoc l j
    | .goto j => (assoc [] i).bind fun l => assoc l j
noncomputable def cadastreref2_Test_L : List Code := selI [] (loopsOf cadastreref2_Test_code)
noncomputable def cadastreref2_Test_J : List Code := selI [3] (joinsOf cadastreref2_Test_code)
noncomputable def cadastreref2_Test_S : List Code := scopesOf cadastreref2_Test_code
theorem cadastreref2_Test_j3_eq0 {ρ : Type} (k : Nat) (K : Ex → St UU → Option ρ) (op0 : Int) (a4 : S23) (b5 : S23) (t6 : S23) : exec UX (cadastreref2_Test_cfg k) (cadastreref2_Test_G k) (cadastreref2_Test_J.getD 0 .skip) ⟨[(0, .pv (.int .i64 op0)), (4, .ptr 4 0), (5, .ptr 5 0), (6, .ptr 6 0)], [(4, [.pv (.int .i64 a4.f0), .pv (.int .i64 a4.f1), .pv (.str a4.f2)]), (5, [.pv (.int .i64 b5.f0), .pv (.int .i64 b5.f1), .pv (.str b5.f2)]), (6, [.pv (.int .i64 t6.f0), .pv (.int .i64 t6.f1), .pv (.str t6.f2)])]⟩ (nrmK UX (cadastreref2_Test_cfg k) 3 K) = cadastreref2_Test_j3 k (fun t6 => K .ret ⟨[(6, .ptr 6 0)], [(6, [.pv (.int .i64 t6.f0), .pv (.int .i64 t6.f1), .pv (.str t6.f2)])]⟩) op0 a4 b5 t6 := by kernel_rfl
theorem cadastreref2_Test_j3_ok0 {ρ : Type} (k : Nat) : JoinOK UX (cadastreref2_Test_cfg (ρ := ρ) k) (cadastreref2_Test_G k) (cadastreref2_Test_J.getD 0 .skip) 3 (cadastreref2_Test_j3_s k) := by
  intro s K r h
  obtain ⟨env, hp⟩ := s
  unfold cadastreref2_Test_j3_s at h
  replace h := popS_inv h; obtain ⟨v1, e2, rfl, h⟩ := h
  replace h := asI_inv h; obtain ⟨op0, rfl, h⟩ := h
  replace h := popS_inv h; obtain ⟨v3, e4, rfl, h⟩ := h
  replace h := asP_inv h; obtain ⟨rfl, h⟩ := h
  replace h := popS_inv h; obtain ⟨v5, e6, rfl, h⟩ := h
  replace h := asP_inv h; obtain ⟨rfl, h⟩ := h
  replace h := popS_inv h; obtain ⟨v7, e8, rfl, h⟩ := h
  replace h := asP_inv h; obtain ⟨rfl, h⟩ := h
  replace h := popN_inv h; obtain ⟨rfl, h⟩ := h
  replace h := popB_inv h; obtain ⟨c9, e10, rfl, h⟩ := h
  replace h := popA_inv h; obtain ⟨v11, c12, rfl, h⟩ := h
  replace h := asI_inv h; obtain ⟨z13, rfl, h⟩ := h
  replace h := popA_inv h; obtain ⟨v14, c15, rfl, h⟩ := h
  replace h := asI_inv h; obtain ⟨z16, rfl, h⟩ := h
  replace h := popA_inv h; obtain ⟨v17, c18, rfl, h⟩ := h
  replace h := asS_inv h; obtain ⟨z19, rfl, h⟩ := h
  replace h := popN_inv h; obtain ⟨rfl, h⟩ := h
  replace h := popB_inv h; obtain ⟨c20, e21, rfl, h⟩ := h
  replace h := popA_inv h; obtain ⟨v22, c23, rfl, h⟩ := h
  replace h := asI_inv h; obtain ⟨z24, rfl, h⟩ := h
  replace h := popA_inv h; obtain ⟨v25, c26, rfl, h⟩ := h
  replace h := asI_inv h; obtain ⟨z27, rfl, h⟩ := h
  replace h := popA_inv h; obtain ⟨v28, c29, rfl, h⟩ := h
  replace h := asS_inv h; obtain ⟨z30, rfl, h⟩ := h
  replace h := popN_inv h; obtain ⟨rfl, h⟩ := h
  replace h := popB_inv h; obtain ⟨c31, e32, rfl, h⟩ := h
  replace h := popA_inv h; obtain ⟨v33, c34, rfl, h⟩ := h
  replace h := asI_inv h; obtain ⟨z35, rfl, h⟩ := h
  replace h := popA_inv h; obtain ⟨v36, c37, rfl, h⟩ := h
  replace h := asI_inv h; obtain ⟨z38, rfl, h⟩ := h
  replace h := popA_inv h; obtain ⟨v39, c40, rfl, h⟩ := h
  replace h := asS_inv h; obtain ⟨z41, rfl, h⟩ := h
  replace h := popN_inv h; obtain ⟨rfl, h⟩ := h
  replace h := popN_inv h; obtain ⟨rfl, h⟩ := h
  exact (cadastreref2_Test_j3_eq0 k K op0 (⟨z13, z16, z19⟩ : S23) (⟨z24, z27, z30⟩ : S23) (⟨z35, z38, z41⟩ : S23)).trans h
theorem cadastreref2_Test_cok {ρ : Type} (k : Nat) : COK (cadastreref2_Test_cfg (ρ := ρ) k) (cadastreref2_Test_G k) cadastreref2_Test_code :=
  cok_of (tl := []) (tj := [(3, cadastreref2_Test_j3_s k)]) (tb := []) rfl rfl rfl (nil_all (by kernel_rfl)) (all_nth 1 (by kernel_rfl) ⟨join_case (by kernel_rfl) rfl (cadastreref2_Test_j3_ok0 k), trivial⟩) (fun p hp => by cases hp)
noncomputable def cadastreref2_Test_enc (r : S23) : AV UU := .pv (.typ (.s23 r))
noncomputable def cadastreref2_Test_dec (v : AV UU) (_ : List (List (AV UU))) : Option S23 :=
as_s23 v fun r0 =>
some r0
theorem cadastreref2_Test_dec_enc (v : AV UU) (b : List (List (AV UU))) (r : S23) (h : cadastreref2_Test_dec v b = some r) : v = cadastreref2_Test_enc r := by
  unfold cadastreref2_Test_dec at h
  replace h := as_s23_inv h; obtain ⟨r0, rfl, h⟩ := h
  cases h
  rfl
theorem cadastreref2_Test_eq (k : Nat) (op0 : Int) (a1 : S23) (b2 : S23) : bodyK UX (cadastreref2_Test_cfg k) (cadastreref2_Test_G k) Try.f27 [.pv (.int .i64 op0), .pv (.typ (.s23 a1)), .pv (.typ (.s23 b2))] [] cadastreref2_Test_dec = cadastreref2_Test k op0 a1 b2 := by kernel_rfl
theorem cadastreref2_Test_con (k : Nat) (op0 : Int) (a1 : S23) (b2 : S23) (r : S23) (h : cadastreref2_Test k op0 a1 b2 = some r) : Con (X := UX) Try.prog 27 [.pv (.int .i64 op0), .pv (.typ (.s23 a1)), .pv (.typ (.s23 b2))] [] (cadastreref2_Test_enc r) [] :=
  con_of_body xok tok Try.func27 cadastreref2_Test_body (cadastreref2_Test_gok k) rfl (cadastreref2_Test_cok k) (of_decide_eq_true (by kernel_rfl)) cadastreref2_Test_dec_enc ((cadastreref2_Test_eq k op0 a1 b2).trans h)
noncomputable def cadastreref2_Test_an {ρ : Type} (k : Nat) : An UX ρ := fun args bx K =>
popA args fun v1 a2 =>
asI .i64 v1 fun op0 =>
popA a2 fun v3 a4 =>
as_s23 v3 fun a1 =>
popA a4 fun v5 a6 =>
as_s23 v5 fun b2 =>
popN a6 <|
popN bx <|
(cadastreref2_Test k op0 a1 b2).bind fun r => K (cadastreref2_Test_enc r) []
theorem cadastreref2_Test_ok {ρ : Type} (k : Nat) : AnsOK Try.prog 27 (cadastreref2_Test_an (ρ := ρ) k) := by
  intro args bx K r h
  unfold cadastreref2_Test_an at h
  replace h := popA_inv h; obtain ⟨v1, a2, rfl, h⟩ := h
  replace h := asI_inv h; obtain ⟨op0, rfl, h⟩ := h
  replace h := popA_inv h; obtain ⟨v3, a4, rfl, h⟩ := h
  replace h := as_s23_inv h; obtain ⟨a1, rfl, h⟩ := h
  replace h := popA_inv h; obtain ⟨v5, a6, rfl, h⟩ := h
  replace h := as_s23_inv h; obtain ⟨b2, rfl, h⟩ := h
  replace h := popN_inv h; obtain ⟨rfl, h⟩ := h
  replace h := popN_inv h; obtain ⟨rfl, h⟩ := h
  replace h := bind_inv h
  obtain ⟨x, hx, h⟩ := h
  exact ⟨there_of Try.func27 (by kernel_rfl) cadastreref2_Test_body, _, _, h, cadastreref2_Test_con k op0 a1 b2 x hx⟩
end Go.Proofs.Ytahgjfdndpnpfaa.T
