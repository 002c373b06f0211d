/-
  What the program's functions answer: the printed functions' answers.
-/
import Derived.Test.YtahgjfdndpnpfaaTG2
namespace Go.Proofs.Ytahgjfdndpnpfaa.T
open Go Go.AX
/-! cadastre/cadastrelaw3.LogicNulls -/
noncomputable def cadastrelaw3_LogicNulls_code : Code := match Try.f5.body with | some c => c | none => .skip
theorem cadastrelaw3_LogicNulls_body : Try.f5.body = some cadastrelaw3_LogicNulls_code := by kernel_rfl
noncomputable def cadastrelaw3_LogicNulls_G {ρ : Type} (k : Nat) : Ans UX ρ := gk 8 (cadastreref2_May_an k) (gk 17 (logic_Null_an k) (gk 18 (cadastreref2_Int_an k) (gk 19 (cadastrelaw3_num_an k) (gk 20 (logic_Test_an k) (gk 21 (cadastrelaw3_wakes_an k) (gnil))))))
theorem cadastrelaw3_LogicNulls_gok {ρ : Type} (k : Nat) : GOK Try.prog (cadastrelaw3_LogicNulls_G (ρ := ρ) k) := gok_cons (cadastreref2_May_ok k) (gok_cons (logic_Null_ok k) (gok_cons (cadastreref2_Int_ok k) (gok_cons (cadastrelaw3_num_ok k) (gok_cons (logic_Test_ok k) (gok_cons (cadastrelaw3_wakes_ok k) (gok_nil))))))
noncomputable def cadastrelaw3_LogicNulls_l14_s {ρ : Type} (k : Nat) : Run UX ρ := fun s K =>
popS 0 s.env fun v1 e2 =>
as_l25 v1 fun l0 =>
popS 3 e2 fun v3 e4 =>
asI .i64 v3 fun i3 =>
popS 4 e4 fun v5 e6 =>
asP 4 0 v5 <|
popS 12 e6 fun v7 e8 =>
asI .i64 v7 fun op12 =>
popN e8 <|
popB 4 s.hp fun c9 e10 =>
popA c9 fun v11 c12 =>
asI .i64 v11 fun z13 =>
popA c12 fun v14 c15 =>
asI .i64 v14 fun z16 =>
popA c15 fun v17 c18 =>
asS v17 fun z19 =>
popN c18 <|
popN e10 <|
cadastrelaw3_LogicNulls_l14 k (fun t2 => K .ret ⟨[(2, .pv (.bool t2))], []⟩) (fun l0 i3 => K (.exit 2) ⟨[(0, .pv (.typ (.l25 l0))), (3, .pv (.int .i64 i3))], []⟩) k l0 i3 op12 (⟨z13, z16, z19⟩ : S23)
noncomputable def cadastrelaw3_LogicNulls_j13_s {ρ : Type} (k : Nat) : Run UX ρ := fun s K =>
popS 0 s.env fun v1 e2 =>
as_l25 v1 fun l0 =>
popS 3 e2 fun v3 e4 =>
asI .i64 v3 fun i3 =>
popS 4 e4 fun v5 e6 =>
asP 4 0 v5 <|
popN e6 <|
popB 4 s.hp fun c7 e8 =>
popA c7 fun v9 c10 =>
asI .i64 v9 fun z11 =>
popA c10 fun v12 c13 =>
asI .i64 v12 fun z14 =>
popA c13 fun v15 c16 =>
asS v15 fun z17 =>
popN c16 <|
popN e8 <|
cadastrelaw3_LogicNulls_j13 k (fun t2 => K .ret ⟨[(2, .pv (.bool t2))], []⟩) (fun l0 i3 => K .nxt ⟨[(0, .pv (.typ (.l25 l0))), (3, .pv (.int .i64 i3))], []⟩) l0 i3 (⟨z11, z14, z17⟩ : S23)
noncomputable def cadastrelaw3_LogicNulls_j4_s {ρ : Type} (k : Nat) : Run UX ρ := fun s K =>
popS 0 s.env fun v1 e2 =>
as_l25 v1 fun l0 =>
popS 3 e2 fun v3 e4 =>
asI .i64 v3 fun i3 =>
popN e4 <|
popN s.hp <|
cadastrelaw3_LogicNulls_j4 k (fun l0 i3 => K .nxt ⟨[(0, .pv (.typ (.l25 l0))), (3, .pv (.int .i64 i3))], []⟩) (fun t2 => K .ret ⟨[(2, .pv (.bool t2))], []⟩) l0 i3
noncomputable def cadastrelaw3_LogicNulls_l2_s {ρ : Type} (k : Nat) : Run UX ρ := fun s K =>
popS 0 s.env fun v1 e2 =>
as_l25 v1 fun l0 =>
popS 3 e2 fun v3 e4 =>
asI .i64 v3 fun i3 =>
popN e4 <|
popN s.hp <|
cadastrelaw3_LogicNulls_l2 k (fun t2 => K .ret ⟨[(2, .pv (.bool t2))], []⟩) (K (.exit 0) ⟨[], []⟩) k l0 i3
noncomputable def cadastrelaw3_LogicNulls_cfg {ρ : Type} (k : Nat) : Cfg UX ρ where
  live i := (assoc [(0, [0]), (1, [0]), (2, [0, 3]), (3, [0, 3]), (4, [0, 3]), (5, [0, 3, 4]), (6, [0, 3, 4]), (7, [0, 3, 4, 5, 6]), (8, [0, 3, 4, 5, 6, 7, 8]), (9, [0, 3, 4, 5, 6, 7, 8, 9]), (10, [0, 3, 4, 5, 6, 7, 8, 9, 10]), (11, [0, 3, 4, 5, 6, 7, 8, 9, 10, 11]), (12, []), (13, [0, 3, 4]), (14, [0, 3, 4, 12]), (15, [0, 3, 4, 12]), (16, [0, 3, 4, 12]), (17, [0, 3, 4, 12, 13, 14]), (18, [0, 3, 4, 12, 13, 14, 15, 16]), (19, []), (20, [])] i).getD []
  boxes i := (assoc [(0, []), (1, []), (2, []), (3, []), (4, []), (5, [4]), (6, [4]), (7, [4, 5]), (8, [4, 5, 7]), (9, [4, 5, 7, 9]), (10, [4, 5, 7, 9, 10]), (11, [4, 5, 7, 9, 10]), (12, []), (13, [4]), (14, [4]), (15, [4]), (16, [4]), (17, [4, 13]), (18, [4, 13, 15]), (19, []), (20, [])] i).getD []
  tk _ := []
  n := 122
  labelR l := (assoc [] l).getD 0
  loops := assoc [(14, cadastrelaw3_LogicNulls_l14_s k), (2, cadastrelaw3_LogicNulls_l2_s k)]
  labels := assoc []
  joins := assoc [(13, cadastrelaw3_LogicNulls_j13_s k), (4, cadastrelaw3_LogicNulls_j4_s k)]
  xl i e := match e with
    | .nxt => assoc [(13, ([0, 3], [])), (4, ([0, 3], []))] i
    | .ret => assoc [(14, ([2], [])), (13, ([2], [])), (4, ([2], [])), (2, ([2], []))] i
    | .exit j => (assoc [(14, [(2, ([0, 3], []))]), (2, [(0, ([], []))])] i).bind fun l => assoc l j
    | .goto j => (assoc [] i).bind fun l => assoc l j
noncomputable def cadastrelaw3_LogicNulls_L : List Code := selI [14, 2] (loopsOf cadastrelaw3_LogicNulls_code)
noncomputable def cadastrelaw3_LogicNulls_J : List Code := selI [13, 4] (joinsOf cadastrelaw3_LogicNulls_code)
noncomputable def cadastrelaw3_LogicNulls_S : List Code := scopesOf cadastrelaw3_LogicNulls_code
theorem cadastrelaw3_LogicNulls_l2_eq0 {ρ : Type} (k : Nat) (K : Ex → St UU → Option ρ) : ∀ (n : Nat) (v : (List S25) × Int), iterK UX (fun s => s.at (cadastrelaw3_LogicNulls_cfg (ρ := ρ) k).live (cadastrelaw3_LogicNulls_cfg (ρ := ρ) k).boxes (some 2)) (exec UX (cadastrelaw3_LogicNulls_cfg k) (cadastrelaw3_LogicNulls_G k) (cadastrelaw3_LogicNulls_L.getD 0 .skip)) n ⟨[(0, .pv (.typ (.l25 v.1))), (3, .pv (.int .i64 v.2))], []⟩ (nrmK UX (cadastrelaw3_LogicNulls_cfg k) 2 K) = cadastrelaw3_LogicNulls_l2 k (fun t2 => K .ret ⟨[(2, .pv (.bool t2))], []⟩) (K (.exit 0) ⟨[], []⟩) n v.1 v.2 :=
  iter_rec (X := UX) (fun v => ⟨[(0, .pv (.typ (.l25 v.1))), (3, .pv (.int .i64 v.2))], []⟩) (fun rec v => cadastrelaw3_LogicNulls_l2_b k (fun t2 => K .ret ⟨[(2, .pv (.bool t2))], []⟩) (K (.exit 0) ⟨[], []⟩) (fun l0 i3 => rec (l0, i3)) v.1 v.2) (fun n v => cadastrelaw3_LogicNulls_l2 k (fun t2 => K .ret ⟨[(2, .pv (.bool t2))], []⟩) (K (.exit 0) ⟨[], []⟩) n v.1 v.2) (fun n v => by kernel_rfl) (fun _ => rfl) (fun _ _ => rfl)
theorem cadastrelaw3_LogicNulls_l2_ok0 {ρ : Type} (k : Nat) : IterOK UX (cadastrelaw3_LogicNulls_cfg (ρ := ρ) k) (cadastrelaw3_LogicNulls_G k) (cadastrelaw3_LogicNulls_L.getD 0 .skip) 2 (cadastrelaw3_LogicNulls_l2_s k) := by
  intro s K r h
  obtain ⟨env, hp⟩ := s
  unfold cadastrelaw3_LogicNulls_l2_s at h
  replace h := popS_inv h; obtain ⟨v1, e2, rfl, h⟩ := h
  replace h := as_l25_inv h; obtain ⟨l0, rfl, h⟩ := h
  replace h := popS_inv h; obtain ⟨v3, e4, rfl, h⟩ := h
  replace h := asI_inv h; obtain ⟨i3, rfl, h⟩ := h
  replace h := popN_inv h; obtain ⟨rfl, h⟩ := h
  replace h := popN_inv h; obtain ⟨rfl, h⟩ := h
  exact ⟨k, (cadastrelaw3_LogicNulls_l2_eq0 k K k (l0, i3)).trans h⟩
theorem cadastrelaw3_LogicNulls_l14_eq1 {ρ : Type} (k : Nat) (K : Ex → St UU → Option ρ) : ∀ (n : Nat) (v : (List S25) × Int × Int × S23), iterK UX (fun s => s.at (cadastrelaw3_LogicNulls_cfg (ρ := ρ) k).live (cadastrelaw3_LogicNulls_cfg (ρ := ρ) k).boxes (some 14)) (exec UX (cadastrelaw3_LogicNulls_cfg k) (cadastrelaw3_LogicNulls_G k) (cadastrelaw3_LogicNulls_L.getD 1 .skip)) n ⟨[(0, .pv (.typ (.l25 v.1))), (3, .pv (.int .i64 v.2.1)), (4, .ptr 4 0), (12, .pv (.int .i64 v.2.2.1))], [(4, [.pv (.int .i64 v.2.2.2.f0), .pv (.int .i64 v.2.2.2.f1), .pv (.str v.2.2.2.f2)])]⟩ (nrmK UX (cadastrelaw3_LogicNulls_cfg k) 14 K) = cadastrelaw3_LogicNulls_l14 k (fun t2 => K .ret ⟨[(2, .pv (.bool t2))], []⟩) (fun l0 i3 => K (.exit 2) ⟨[(0, .pv (.typ (.l25 l0))), (3, .pv (.int .i64 i3))], []⟩) n v.1 v.2.1 v.2.2.1 v.2.2.2 :=
  iter_rec (X := UX) (fun v => ⟨[(0, .pv (.typ (.l25 v.1))), (3, .pv (.int .i64 v.2.1)), (4, .ptr 4 0), (12, .pv (.int .i64 v.2.2.1))], [(4, [.pv (.int .i64 v.2.2.2.f0), .pv (.int .i64 v.2.2.2.f1), .pv (.str v.2.2.2.f2)])]⟩) (fun rec v => cadastrelaw3_LogicNulls_l14_b k (fun t2 => K .ret ⟨[(2, .pv (.bool t2))], []⟩) (fun l0 i3 => K (.exit 2) ⟨[(0, .pv (.typ (.l25 l0))), (3, .pv (.int .i64 i3))], []⟩) (fun l0 i3 op12 a4 => rec (l0, i3, op12, a4)) v.1 v.2.1 v.2.2.1 v.2.2.2) (fun n v => cadastrelaw3_LogicNulls_l14 k (fun t2 => K .ret ⟨[(2, .pv (.bool t2))], []⟩) (fun l0 i3 => K (.exit 2) ⟨[(0, .pv (.typ (.l25 l0))), (3, .pv (.int .i64 i3))], []⟩) n v.1 v.2.1 v.2.2.1 v.2.2.2) (fun n v => by kernel_rfl) (fun _ => rfl) (fun _ _ => rfl)
theorem cadastrelaw3_LogicNulls_l14_ok1 {ρ : Type} (k : Nat) : IterOK UX (cadastrelaw3_LogicNulls_cfg (ρ := ρ) k) (cadastrelaw3_LogicNulls_G k) (cadastrelaw3_LogicNulls_L.getD 1 .skip) 14 (cadastrelaw3_LogicNulls_l14_s k) := by
  intro s K r h
  obtain ⟨env, hp⟩ := s
  unfold cadastrelaw3_LogicNulls_l14_s at h
  replace h := popS_inv h; obtain ⟨v1, e2, rfl, h⟩ := h
  replace h := as_l25_inv h; obtain ⟨l0, rfl, h⟩ := h
  replace h := popS_inv h; obtain ⟨v3, e4, rfl, h⟩ := h
  replace h := asI_inv h; obtain ⟨i3, rfl, h⟩ := h
  replace h := popS_inv h; obtain ⟨v5, e6, rfl, h⟩ := h
  replace h := asP_inv h; obtain ⟨rfl, h⟩ := h
  replace h := popS_inv h; obtain ⟨v7, e8, rfl, h⟩ := h
  replace h := asI_inv h; obtain ⟨op12, rfl, h⟩ := h
  replace h := popN_inv h; obtain ⟨rfl, h⟩ := h
  replace h := popB_inv h; obtain ⟨c9, e10, rfl, h⟩ := h
  replace h := popA_inv h; obtain ⟨v11, c12, rfl, h⟩ := h
  replace h := asI_inv h; obtain ⟨z13, rfl, h⟩ := h
  replace h := popA_inv h; obtain ⟨v14, c15, rfl, h⟩ := h
  replace h := asI_inv h; obtain ⟨z16, rfl, h⟩ := h
  replace h := popA_inv h; obtain ⟨v17, c18, rfl, h⟩ := h
  replace h := asS_inv h; obtain ⟨z19, rfl, h⟩ := h
  replace h := popN_inv h; obtain ⟨rfl, h⟩ := h
  replace h := popN_inv h; obtain ⟨rfl, h⟩ := h
  exact ⟨k, (cadastrelaw3_LogicNulls_l14_eq1 k K k (l0, i3, op12, (⟨z13, z16, z19⟩ : S23))).trans h⟩
theorem cadastrelaw3_LogicNulls_j4_eq0 {ρ : Type} (k : Nat) (K : Ex → St UU → Option ρ) (l0 : List S25) (i3 : Int) : exec UX (cadastrelaw3_LogicNulls_cfg k) (cadastrelaw3_LogicNulls_G k) (cadastrelaw3_LogicNulls_J.getD 0 .skip) ⟨[(0, .pv (.typ (.l25 l0))), (3, .pv (.int .i64 i3))], []⟩ (nrmK UX (cadastrelaw3_LogicNulls_cfg k) 4 K) = cadastrelaw3_LogicNulls_j4 k (fun l0 i3 => K .nxt ⟨[(0, .pv (.typ (.l25 l0))), (3, .pv (.int .i64 i3))], []⟩) (fun t2 => K .ret ⟨[(2, .pv (.bool t2))], []⟩) l0 i3 := by kernel_rfl
theorem cadastrelaw3_LogicNulls_j4_ok0 {ρ : Type} (k : Nat) : JoinOK UX (cadastrelaw3_LogicNulls_cfg (ρ := ρ) k) (cadastrelaw3_LogicNulls_G k) (cadastrelaw3_LogicNulls_J.getD 0 .skip) 4 (cadastrelaw3_LogicNulls_j4_s k) := by
  intro s K r h
  obtain ⟨env, hp⟩ := s
  unfold cadastrelaw3_LogicNulls_j4_s at h
  replace h := popS_inv h; obtain ⟨v1, e2, rfl, h⟩ := h
  replace h := as_l25_inv h; obtain ⟨l0, rfl, h⟩ := h
  replace h := popS_inv h; obtain ⟨v3, e4, rfl, h⟩ := h
  replace h := asI_inv h; obtain ⟨i3, rfl, h⟩ := h
  replace h := popN_inv h; obtain ⟨rfl, h⟩ := h
  replace h := popN_inv h; obtain ⟨rfl, h⟩ := h
  exact (cadastrelaw3_LogicNulls_j4_eq0 k K l0 i3).trans h
theorem cadastrelaw3_LogicNulls_j13_eq1 {ρ : Type} (k : Nat) (K : Ex → St UU → Option ρ) (l0 : List S25) (i3 : Int) (a4 : S23) : exec UX (cadastrelaw3_LogicNulls_cfg k) (cadastrelaw3_LogicNulls_G k) (cadastrelaw3_LogicNulls_J.getD 1 .skip) ⟨[(0, .pv (.typ (.l25 l0))), (3, .pv (.int .i64 i3)), (4, .ptr 4 0)], [(4, [.pv (.int .i64 a4.f0), .pv (.int .i64 a4.f1), .pv (.str a4.f2)])]⟩ (nrmK UX (cadastrelaw3_LogicNulls_cfg k) 13 K) = cadastrelaw3_LogicNulls_j13 k (fun t2 => K .ret ⟨[(2, .pv (.bool t2))], []⟩) (fun l0 i3 => K .nxt ⟨[(0, .pv (.typ (.l25 l0))), (3, .pv (.int .i64 i3))], []⟩) l0 i3 a4 := by kernel_rfl
theorem cadastrelaw3_LogicNulls_j13_ok1 {ρ : Type} (k : Nat) : JoinOK UX (cadastrelaw3_LogicNulls_cfg (ρ := ρ) k) (cadastrelaw3_LogicNulls_G k) (cadastrelaw3_LogicNulls_J.getD 1 .skip) 13 (cadastrelaw3_LogicNulls_j13_s k) := by
  intro s K r h
  obtain ⟨env, hp⟩ := s
  unfold cadastrelaw3_LogicNulls_j13_s at h
  replace h := popS_inv h; obtain ⟨v1, e2, rfl, h⟩ := h
  replace h := as_l25_inv h; obtain ⟨l0, rfl, h⟩ := h
  replace h := popS_inv h; obtain ⟨v3, e4, rfl, h⟩ := h
  replace h := asI_inv h; obtain ⟨i3, rfl, h⟩ := h
  replace h := popS_inv h; obtain ⟨v5, e6, rfl, h⟩ := h
  replace h := asP_inv h; obtain ⟨rfl, h⟩ := h
  replace h := popN_inv h; obtain ⟨rfl, h⟩ := h
  replace h := popB_inv h; obtain ⟨c7, e8, rfl, h⟩ := h
  replace h := popA_inv h; obtain ⟨v9, c10, rfl, h⟩ := h
  replace h := asI_inv h; obtain ⟨z11, rfl, h⟩ := h
  replace h := popA_inv h; obtain ⟨v12, c13, rfl, h⟩ := h
  replace h := asI_inv h; obtain ⟨z14, rfl, h⟩ := h
  replace h := popA_inv h; obtain ⟨v15, c16, rfl, h⟩ := h
  replace h := asS_inv h; obtain ⟨z17, rfl, h⟩ := h
  replace h := popN_inv h; obtain ⟨rfl, h⟩ := h
  replace h := popN_inv h; obtain ⟨rfl, h⟩ := h
  exact (cadastrelaw3_LogicNulls_j13_eq1 k K l0 i3 (⟨z11, z14, z17⟩ : S23)).trans h
theorem cadastrelaw3_LogicNulls_cok {ρ : Type} (k : Nat) : COK (cadastrelaw3_LogicNulls_cfg (ρ := ρ) k) (cadastrelaw3_LogicNulls_G k) cadastrelaw3_LogicNulls_code :=
  cok_of (tl := [(14, cadastrelaw3_LogicNulls_l14_s k), (2, cadastrelaw3_LogicNulls_l2_s k)]) (tj := [(13, cadastrelaw3_LogicNulls_j13_s k), (4, cadastrelaw3_LogicNulls_j4_s k)]) (tb := []) rfl rfl rfl (all_nth 2 (by kernel_rfl) ⟨iter_case (by kernel_rfl) rfl (cadastrelaw3_LogicNulls_l14_ok1 k), iter_case (by kernel_rfl) rfl (cadastrelaw3_LogicNulls_l2_ok0 k), trivial⟩) (all_nth 2 (by kernel_rfl) ⟨join_case (by kernel_rfl) rfl (cadastrelaw3_LogicNulls_j13_ok1 k), join_case (by kernel_rfl) rfl (cadastrelaw3_LogicNulls_j4_ok0 k), trivial⟩) (fun p hp => by cases hp)
noncomputable def cadastrelaw3_LogicNulls_enc (r : Bool) : AV UU := .pv (.bool r)
noncomputable def cadastrelaw3_LogicNulls_dec (v : AV UU) (_ : List (List (AV UU))) : Option Bool :=
asB v fun r0 =>
some r0
theorem cadastrelaw3_LogicNulls_dec_enc (v : AV UU) (b : List (List (AV UU))) (r : Bool) (h : cadastrelaw3_LogicNulls_dec v b = some r) : v = cadastrelaw3_LogicNulls_enc r := by
  unfold cadastrelaw3_LogicNulls_dec at h
  replace h := asB_inv h; obtain ⟨r0, rfl, h⟩ := h
  cases h
  rfl
theorem cadastrelaw3_LogicNulls_eq (k : Nat) (l0 : List S25) : bodyK UX (cadastrelaw3_LogicNulls_cfg k) (cadastrelaw3_LogicNulls_G k) Try.f5 [.pv (.typ (.l25 l0))] [] cadastrelaw3_LogicNulls_dec = cadastrelaw3_LogicNulls k l0 := by kernel_rfl
theorem cadastrelaw3_LogicNulls_con (k : Nat) (l0 : List S25) (r : Bool) (h : cadastrelaw3_LogicNulls k l0 = some r) : Con (X := UX) Try.prog 5 [.pv (.typ (.l25 l0))] [] (cadastrelaw3_LogicNulls_enc r) [] :=
  con_of_body xok tok Try.func5 cadastrelaw3_LogicNulls_body (cadastrelaw3_LogicNulls_gok k) rfl (cadastrelaw3_LogicNulls_cok k) (of_decide_eq_true (by kernel_rfl)) cadastrelaw3_LogicNulls_dec_enc ((cadastrelaw3_LogicNulls_eq k l0).trans h)
noncomputable def cadastrelaw3_LogicNulls_an {ρ : Type} (k : Nat) : An UX ρ := fun args bx K =>
popA args fun v1 a2 =>
as_l25 v1 fun l0 =>
popN a2 <|
popN bx <|
(cadastrelaw3_LogicNulls k l0).bind fun r => K (cadastrelaw3_LogicNulls_enc r) []
theorem cadastrelaw3_LogicNulls_ok {ρ : Type} (k : Nat) : AnsOK Try.prog 5 (cadastrelaw3_LogicNulls_an (ρ := ρ) k) := by
  intro args bx K r h
  unfold cadastrelaw3_LogicNulls_an at h
  replace h := popA_inv h; obtain ⟨v1, a2, rfl, h⟩ := h
  replace h := as_l25_inv h; obtain ⟨l0, rfl, h⟩ := h
  replace h := popN_inv h; obtain ⟨rfl, h⟩ := h
  replace h := popN_inv h; obtain ⟨rfl, h⟩ := h
  replace h := bind_inv h
  obtain ⟨x, hx, h⟩ := h
  exact ⟨there_of Try.func5 (by kernel_rfl) cadastrelaw3_LogicNulls_body, _, _, h, cadastrelaw3_LogicNulls_con k l0 x hx⟩

/-! cadastre/logic.Not -/
noncomputable def logic_Not_code : Code := match Try.f23.body with | some c => c | none => .skip
theorem logic_Not_body : Try.f23.body = some logic_Not_code := by kernel_rfl
noncomputable def logic_Not_G {ρ : Type} (k : Nat) : Ans UX ρ := gk 43 (logic_truth_an k) (gk 44 (logic_answer_an k) (gnil))
theorem logic_Not_gok {ρ : Type} (k : Nat) : GOK Try.prog (logic_Not_G (ρ := ρ) k) := gok_cons (logic_truth_ok k) (gok_cons (logic_answer_ok k) (gok_nil))
noncomputable def logic_Not_cfg {ρ : Type} (k : Nat) : Cfg UX ρ where
  live i := (assoc [(0, [0]), (1, [1, 2]), (2, [2, 4, 5]), (3, [2, 5]), (4, [2, 4])] i).getD []
  boxes i := (assoc [(0, []), (1, [1, 2]), (2, [2]), (3, [2]), (4, [2])] i).getD []
  tk _ := []
  n := 18
  labelR l := (assoc [] l).getD 0
  loops := assoc []
  labels := assoc []
  joins := assoc []
  xl i e := match e with
    | .nxt => assoc [] i
    | .ret => assoc [] i
    | .exit j => (assoc [] i).bind fun l => assoc l j
    | .goto j => (assoc [] i).bind fun l => assoc l j
noncomputable def logic_Not_L : List Code := selI [] (loopsOf logic_Not_code)
noncomputable def logic_Not_J : List Code := selI [] (joinsOf logic_Not_code)
noncomputable def logic_Not_S : List Code := scopesOf logic_Not_code
theorem logic_Not_cok {ρ : Type} (k : Nat) : COK (logic_Not_cfg (ρ := ρ) k) (logic_Not_G k) logic_Not_code :=
  cok_of (tl := []) (tj := []) (tb := []) rfl rfl rfl (nil_all (by kernel_rfl)) (nil_all (by kernel_rfl)) (fun p hp => by cases hp)
noncomputable def logic_Not_enc (r : S23 × Int) : AV UU := .pv (.tup [.typ (.s23 r.1), .int .i64 r.2])
noncomputable def logic_Not_dec (v : AV UU) (_ : List (List (AV UU))) : Option (S23 × Int) :=
asT v fun q1 =>
popA q1 fun p2 q3 =>
as_s23 (.pv p2) fun r0 =>
popA q3 fun p4 q5 =>
asI .i64 (.pv p4) fun r1 =>
popN q5 <|
some (r0, r1)
theorem logic_Not_dec_enc (v : AV UU) (b : List (List (AV UU))) (r : S23 × Int) (h : logic_Not_dec v b = some r) : v = logic_Not_enc r := by
  unfold logic_Not_dec at h
  replace h := asT_inv h; obtain ⟨q1, rfl, h⟩ := h
  replace h := popA_inv h; obtain ⟨p2, q3, rfl, h⟩ := h
  replace h := as_s23_inv h; obtain ⟨r0, e, h⟩ := h; cases e
  replace h := popA_inv h; obtain ⟨p4, q5, rfl, h⟩ := h
  replace h := asI_inv h; obtain ⟨r1, e, h⟩ := h; cases e
  replace h := popN_inv h; obtain ⟨rfl, h⟩ := h
  cases h
  rfl
theorem logic_Not_eq (k : Nat) (v0 : S23) : bodyK UX (logic_Not_cfg k) (logic_Not_G k) Try.f23 [.pv (.typ (.s23 v0))] [] logic_Not_dec = logic_Not k v0 := by kernel_rfl
theorem logic_Not_con (k : Nat) (v0 : S23) (r : S23 × Int) (h : logic_Not k v0 = some r) : Con (X := UX) Try.prog 23 [.pv (.typ (.s23 v0))] [] (logic_Not_enc r) [] :=
  con_of_body xok tok Try.func23 logic_Not_body (logic_Not_gok k) rfl (logic_Not_cok k) (of_decide_eq_true (by kernel_rfl)) logic_Not_dec_enc ((logic_Not_eq k v0).trans h)
noncomputable def logic_Not_an {ρ : Type} (k : Nat) : An UX ρ := fun args bx K =>
popA args fun v1 a2 =>
as_s23 v1 fun v0 =>
popN a2 <|
popN bx <|
(logic_Not k v0).bind fun r => K (logic_Not_enc r) []
theorem logic_Not_ok {ρ : Type} (k : Nat) : AnsOK Try.prog 23 (logic_Not_an (ρ := ρ) k) := by
  intro args bx K r h
  unfold logic_Not_an at h
  replace h := popA_inv h; obtain ⟨v1, a2, rfl, h⟩ := h
  replace h := as_s23_inv h; obtain ⟨v0, rfl, h⟩ := h
  replace h := popN_inv h; obtain ⟨rfl, h⟩ := h
  replace h := popN_inv h; obtain ⟨rfl, h⟩ := h
  replace h := bind_inv h
  obtain ⟨x, hx, h⟩ := h
  exact ⟨there_of Try.func23 (by kernel_rfl) logic_Not_body, _, _, h, logic_Not_con k v0 x hx⟩

/-! cadastre/cadastrelaw3.LogicLaws -/
noncomputable def cadastrelaw3_LogicLaws_code : Code := match Try.f6.body with | some c => c | none => .skip
theorem cadastrelaw3_LogicLaws_body : Try.f6.body = some cadastrelaw3_LogicLaws_code := by kernel_rfl
noncomputable def cadastrelaw3_LogicLaws_G {ρ : Type} (k : Nat) : Ans UX ρ := gk 22 (logic_Join_an k) (gk 19 (cadastrelaw3_num_an k) (gk 23 (logic_Not_an k) (gk 20 (logic_Test_an k) (gk 21 (cadastrelaw3_wakes_an k) (gnil)))))
theorem cadastrelaw3_LogicLaws_gok {ρ : Type} (k : Nat) : GOK Try.prog (cadastrelaw3_LogicLaws_G (ρ := ρ) k) := gok_cons (logic_Join_ok k) (gok_cons (cadastrelaw3_num_ok k) (gok_cons (logic_Not_ok k) (gok_cons (logic_Test_ok k) (gok_cons (cadastrelaw3_wakes_ok k) (gok_nil)))))
noncomputable def cadastrelaw3_LogicLaws_j26_s {ρ : Type} (k : Nat) : Run UX ρ := fun s K =>
popS 0 s.env fun v1 e2 =>
as_l25 v1 fun l0 =>
popS 3 e2 fun v3 e4 =>
asP 3 0 v3 <|
popS 4 e4 fun v5 e6 =>
asP 4 0 v5 <|
popS 5 e6 fun v7 e8 =>
asI .i64 v7 fun i5 =>
popS 6 e8 fun v9 e10 =>
asP 6 0 v9 <|
popS 19 e10 fun v11 e12 =>
asI .i64 v11 fun q19 =>
popS 20 e12 fun v13 e14 =>
asP 20 0 v13 <|
popS 21 e14 fun v15 e16 =>
asI .i64 v15 fun g21 =>
popS 24 e16 fun v17 e18 =>
asP 24 0 v17 <|
popN e18 <|
popB 3 s.hp fun c19 e20 =>
popA c19 fun v21 c22 =>
as_a50 v21 fun z23 =>
popN c22 <|
popB 4 e20 fun c24 e25 =>
popA c24 fun v26 c27 =>
as_a50 v26 fun z28 =>
popN c27 <|
popB 6 e25 fun c29 e30 =>
popA c29 fun v31 c32 =>
asI .i64 v31 fun z33 =>
popA c32 fun v34 c35 =>
asI .i64 v34 fun z36 =>
popA c35 fun v37 c38 =>
asS v37 fun z39 =>
popA c38 fun v40 c41 =>
asI .i64 v40 fun z42 =>
popA c41 fun v43 c44 =>
asI .i64 v43 fun z45 =>
popA c44 fun v46 c47 =>
asS v46 fun z48 =>
popA c47 fun v49 c50 =>
asI .i64 v49 fun z51 =>
popN c50 <|
popB 20 e30 fun c52 e53 =>
popA c52 fun v54 c55 =>
asI .i64 v54 fun z56 =>
popA c55 fun v57 c58 =>
asI .i64 v57 fun z59 =>
popA c58 fun v60 c61 =>
asS v60 fun z62 =>
popN c61 <|
popB 24 e53 fun c63 e64 =>
popA c63 fun v65 c66 =>
asI .i64 v65 fun z67 =>
popA c66 fun v68 c69 =>
asI .i64 v68 fun z70 =>
popA c69 fun v71 c72 =>
asS v71 fun z73 =>
popN c72 <|
popN e64 <|
cadastrelaw3_LogicLaws_j26 k (fun t2 => K .ret ⟨[(2, .pv (.bool t2))], []⟩) (fun l0 i5 q19 opposite3_0 mirrored4_0 p6 => K .nxt ⟨[(0, .pv (.typ (.l25 l0))), (3, .ptr 3 0), (4, .ptr 4 0), (5, .pv (.int .i64 i5)), (6, .ptr 6 0), (19, .pv (.int .i64 q19))], [(3, [.pv (.typ (.a50 opposite3_0))]), (4, [.pv (.typ (.a50 mirrored4_0))]), (6, [.pv (.int .i64 p6.f0.f0), .pv (.int .i64 p6.f0.f1), .pv (.str p6.f0.f2), .pv (.int .i64 p6.f1.f0), .pv (.int .i64 p6.f1.f1), .pv (.str p6.f1.f2), .pv (.int .i64 p6.f2)])]⟩) l0 i5 q19 g21 z23 z28 (⟨(⟨z33, z36, z39⟩ : S23), (⟨z42, z45, z48⟩ : S23), z51⟩ : S25) (⟨z56, z59, z62⟩ : S23) (⟨z67, z70, z73⟩ : S23)
noncomputable def cadastrelaw3_LogicLaws_l19_s {ρ : Type} (k : Nat) : Run UX ρ := fun s K =>
popS 0 s.env fun v1 e2 =>
as_l25 v1 fun l0 =>
popS 3 e2 fun v3 e4 =>
asP 3 0 v3 <|
popS 4 e4 fun v5 e6 =>
asP 4 0 v5 <|
popS 5 e6 fun v7 e8 =>
asI .i64 v7 fun i5 =>
popS 6 e8 fun v9 e10 =>
asP 6 0 v9 <|
popS 19 e10 fun v11 e12 =>
asI .i64 v11 fun q19 =>
popN e12 <|
popB 3 s.hp fun c13 e14 =>
popA c13 fun v15 c16 =>
as_a50 v15 fun z17 =>
popN c16 <|
popB 4 e14 fun c18 e19 =>
popA c18 fun v20 c21 =>
as_a50 v20 fun z22 =>
popN c21 <|
popB 6 e19 fun c23 e24 =>
popA c23 fun v25 c26 =>
asI .i64 v25 fun z27 =>
popA c26 fun v28 c29 =>
asI .i64 v28 fun z30 =>
popA c29 fun v31 c32 =>
asS v31 fun z33 =>
popA c32 fun v34 c35 =>
asI .i64 v34 fun z36 =>
popA c35 fun v37 c38 =>
asI .i64 v37 fun z39 =>
popA c38 fun v40 c41 =>
asS v40 fun z42 =>
popA c41 fun v43 c44 =>
asI .i64 v43 fun z45 =>
popN c44 <|
popN e24 <|
cadastrelaw3_LogicLaws_l19 k (fun t2 => K .ret ⟨[(2, .pv (.bool t2))], []⟩) (fun l0 i5 opposite3_0 mirrored4_0 => K (.exit 2) ⟨[(0, .pv (.typ (.l25 l0))), (3, .ptr 3 0), (4, .ptr 4 0), (5, .pv (.int .i64 i5))], [(3, [.pv (.typ (.a50 opposite3_0))]), (4, [.pv (.typ (.a50 mirrored4_0))])]⟩) k l0 i5 q19 z17 z22 (⟨(⟨z27, z30, z33⟩ : S23), (⟨z36, z39, z42⟩ : S23), z45⟩ : S25)
noncomputable def cadastrelaw3_LogicLaws_j18_s {ρ : Type} (k : Nat) : Run UX ρ := fun s K =>
popS 0 s.env fun v1 e2 =>
as_l25 v1 fun l0 =>
popS 3 e2 fun v3 e4 =>
asP 3 0 v3 <|
popS 4 e4 fun v5 e6 =>
asP 4 0 v5 <|
popS 5 e6 fun v7 e8 =>
asI .i64 v7 fun i5 =>
popS 6 e8 fun v9 e10 =>
asP 6 0 v9 <|
popN e10 <|
popB 3 s.hp fun c11 e12 =>
popA c11 fun v13 c14 =>
as_a50 v13 fun z15 =>
popN c14 <|
popB 4 e12 fun c16 e17 =>
popA c16 fun v18 c19 =>
as_a50 v18 fun z20 =>
popN c19 <|
popB 6 e17 fun c21 e22 =>
popA c21 fun v23 c24 =>
asI .i64 v23 fun z25 =>
popA c24 fun v26 c27 =>
asI .i64 v26 fun z28 =>
popA c27 fun v29 c30 =>
asS v29 fun z31 =>
popA c30 fun v32 c33 =>
asI .i64 v32 fun z34 =>
popA c33 fun v35 c36 =>
asI .i64 v35 fun z37 =>
popA c36 fun v38 c39 =>
asS v38 fun z40 =>
popA c39 fun v41 c42 =>
asI .i64 v41 fun z43 =>
popN c42 <|
popN e22 <|
cadastrelaw3_LogicLaws_j18 k (fun t2 => K .ret ⟨[(2, .pv (.bool t2))], []⟩) (fun l0 i5 opposite3_0 mirrored4_0 => K .nxt ⟨[(0, .pv (.typ (.l25 l0))), (3, .ptr 3 0), (4, .ptr 4 0), (5, .pv (.int .i64 i5))], [(3, [.pv (.typ (.a50 opposite3_0))]), (4, [.pv (.typ (.a50 mirrored4_0))])]⟩) l0 i5 z15 z20 (⟨(⟨z25, z28, z31⟩ : S23), (⟨z34, z37, z40⟩ : S23), z43⟩ : S25)
noncomputable def cadastrelaw3_LogicLaws_j11_s {ρ : Type} (k : Nat) : Run UX ρ := fun s K =>
popS 0 s.env fun v1 e2 =>
as_l25 v1 fun l0 =>
popS 3 e2 fun v3 e4 =>
asP 3 0 v3 <|
popS 4 e4 fun v5 e6 =>
asP 4 0 v5 <|
popS 5 e6 fun v7 e8 =>
asI .i64 v7 fun i5 =>
popS 6 e8 fun v9 e10 =>
asP 6 0 v9 <|
popS 7 e10 fun v11 e12 =>
asP 7 0 v11 <|
popS 8 e12 fun v13 e14 =>
asI .i64 v13 fun e8 =>
popN e14 <|
popB 3 s.hp fun c15 e16 =>
popA c15 fun v17 c18 =>
as_a50 v17 fun z19 =>
popN c18 <|
popB 4 e16 fun c20 e21 =>
popA c20 fun v22 c23 =>
as_a50 v22 fun z24 =>
popN c23 <|
popB 6 e21 fun c25 e26 =>
popA c25 fun v27 c28 =>
asI .i64 v27 fun z29 =>
popA c28 fun v30 c31 =>
asI .i64 v30 fun z32 =>
popA c31 fun v33 c34 =>
asS v33 fun z35 =>
popA c34 fun v36 c37 =>
asI .i64 v36 fun z38 =>
popA c37 fun v39 c40 =>
asI .i64 v39 fun z41 =>
popA c40 fun v42 c43 =>
asS v42 fun z44 =>
popA c43 fun v45 c46 =>
asI .i64 v45 fun z47 =>
popN c46 <|
popB 7 e26 fun c48 e49 =>
popA c48 fun v50 c51 =>
asI .i64 v50 fun z52 =>
popA c51 fun v53 c54 =>
asI .i64 v53 fun z55 =>
popA c54 fun v56 c57 =>
asS v56 fun z58 =>
popN c57 <|
popN e49 <|
cadastrelaw3_LogicLaws_j11 k (fun t2 => K .ret ⟨[(2, .pv (.bool t2))], []⟩) (fun l0 i5 opposite3_0 mirrored4_0 => K .nxt ⟨[(0, .pv (.typ (.l25 l0))), (3, .ptr 3 0), (4, .ptr 4 0), (5, .pv (.int .i64 i5))], [(3, [.pv (.typ (.a50 opposite3_0))]), (4, [.pv (.typ (.a50 mirrored4_0))])]⟩) l0 i5 e8 z19 z24 (⟨(⟨z29, z32, z35⟩ : S23), (⟨z38, z41, z44⟩ : S23), z47⟩ : S25) (⟨z52, z55, z58⟩ : S23)
noncomputable def cadastrelaw3_LogicLaws_j6_s {ρ : Type} (k : Nat) : Run UX ρ := fun s K =>
popS 0 s.env fun v1 e2 =>
as_l25 v1 fun l0 =>
popS 3 e2 fun v3 e4 =>
asP 3 0 v3 <|
popS 4 e4 fun v5 e6 =>
asP 4 0 v5 <|
popS 5 e6 fun v7 e8 =>
asI .i64 v7 fun i5 =>
popN e8 <|
popB 3 s.hp fun c9 e10 =>
popA c9 fun v11 c12 =>
as_a50 v11 fun z13 =>
popN c12 <|
popB 4 e10 fun c14 e15 =>
popA c14 fun v16 c17 =>
as_a50 v16 fun z18 =>
popN c17 <|
popN e15 <|
cadastrelaw3_LogicLaws_j6 k (fun t2 => K .ret ⟨[(2, .pv (.bool t2))], []⟩) (fun l0 i5 opposite3_0 mirrored4_0 => K .nxt ⟨[(0, .pv (.typ (.l25 l0))), (3, .ptr 3 0), (4, .ptr 4 0), (5, .pv (.int .i64 i5))], [(3, [.pv (.typ (.a50 opposite3_0))]), (4, [.pv (.typ (.a50 mirrored4_0))])]⟩) l0 i5 z13 z18
noncomputable def cadastrelaw3_LogicLaws_l4_s {ρ : Type} (k : Nat) : Run UX ρ := fun s K =>
popS 0 s.env fun v1 e2 =>
as_l25 v1 fun l0 =>
popS 3 e2 fun v3 e4 =>
asP 3 0 v3 <|
popS 4 e4 fun v5 e6 =>
asP 4 0 v5 <|
popS 5 e6 fun v7 e8 =>
asI .i64 v7 fun i5 =>
popN e8 <|
popB 3 s.hp fun c9 e10 =>
popA c9 fun v11 c12 =>
as_a50 v11 fun z13 =>
popN c12 <|
popB 4 e10 fun c14 e15 =>
popA c14 fun v16 c17 =>
as_a50 v16 fun z18 =>
popN c17 <|
popN e15 <|
cadastrelaw3_LogicLaws_l4 k (fun t2 => K .ret ⟨[(2, .pv (.bool t2))], []⟩) (K (.exit 0) ⟨[], []⟩) k l0 i5 z13 z18
noncomputable def cadastrelaw3_LogicLaws_cfg {ρ : Type} (k : Nat) : Cfg UX ρ where
  live i := (assoc [(0, [0]), (1, [0]), (2, [0, 3]), (3, [0, 3, 4]), (4, [0, 3, 4, 5]), (5, [0, 3, 4, 5]), (6, [0, 3, 4, 5]), (7, [0, 3, 4, 5, 6]), (8, [0, 3, 4, 5, 6, 7, 8]), (9, [0, 3, 4, 5, 6, 7, 8, 9, 10]), (10, []), (11, [0, 3, 4, 5, 6, 7, 8]), (12, [0, 3, 4, 5, 6, 7]), (13, [0, 3, 4, 5, 6, 11, 12]), (14, [0, 3, 4, 5, 6, 11, 12, 13, 14]), (15, [0, 3, 4, 5, 6, 11, 12, 13, 14, 15, 16]), (16, [0, 3, 4, 5, 6, 11, 12, 14, 16, 17, 18]), (17, []), (18, [0, 3, 4, 5, 6]), (19, [0, 3, 4, 5, 6, 19]), (20, [0, 3, 4, 5, 6, 19]), (21, [0, 3, 4, 5, 6, 19]), (22, [0, 3, 4, 5, 6, 19, 20, 21]), (23, [0, 3, 4, 5, 6, 19, 20, 21, 22, 23]), (24, [0, 3, 4, 5, 6, 19, 20, 21, 22, 23, 24, 25]), (25, []), (26, [0, 3, 4, 5, 6, 19, 20, 21, 24]), (27, [0, 3, 4, 5, 6, 19, 20, 24]), (28, [0, 3, 4, 5, 6, 19, 20, 26, 27]), (29, []), (30, [])] i).getD []
  boxes i := (assoc [(0, []), (1, []), (2, [3]), (3, [3, 4]), (4, [3, 4]), (5, [3, 4]), (6, [3, 4]), (7, [3, 4, 6]), (8, [3, 4, 6, 7]), (9, [3, 4, 6, 7, 9]), (10, []), (11, [3, 4, 6, 7]), (12, [3, 4, 6, 7]), (13, [3, 4, 6, 11]), (14, [3, 4, 6, 11, 13]), (15, [3, 4, 6, 11, 13, 15]), (16, [3, 4, 6, 11, 17]), (17, []), (18, [3, 4, 6]), (19, [3, 4, 6]), (20, [3, 4, 6]), (21, [3, 4, 6]), (22, [3, 4, 6, 20]), (23, [3, 4, 6, 20, 22]), (24, [3, 4, 6, 20, 22, 24]), (25, []), (26, [3, 4, 6, 20, 24]), (27, [3, 4, 6, 20, 24]), (28, [3, 4, 6, 20, 26]), (29, []), (30, [])] i).getD []
  tk _ := []
  n := 189
  labelR l := (assoc [] l).getD 0
  loops := assoc [(19, cadastrelaw3_LogicLaws_l19_s k), (4, cadastrelaw3_LogicLaws_l4_s k)]
  labels := assoc []
  joins := assoc [(26, cadastrelaw3_LogicLaws_j26_s k), (18, cadastrelaw3_LogicLaws_j18_s k), (11, cadastrelaw3_LogicLaws_j11_s k), (6, cadastrelaw3_LogicLaws_j6_s k)]
  xl i e := match e with
    | .nxt => assoc [(26, ([0, 3, 4, 5, 6, 19], [3, 4, 6])), (18, ([0, 3, 4, 5], [3, 4])), (11, ([0, 3, 4, 5], [3, 4])), (6, ([0, 3, 4, 5], [3, 4]))] i
    | .ret => assoc [(26, ([2], [])), (19, ([2], [])), (18, ([2], [])), (11, ([2], [])), (6, ([2], [])), (4, ([2], []))] i
    | .exit j => (assoc [(19, [(2, ([0, 3, 4, 5], [3, 4]))]), (4, [(0, ([], []))])] i).bind fun l => assoc l j
    | .goto j => (assoc [] i).bind fun l => assoc l j
noncomputable def cadastrelaw3_LogicLaws_L : List Code := selI [19, 4] (loopsOf cadastrelaw3_LogicLaws_code)
noncomputable def cadastrelaw3_LogicLaws_J : List Code := selI [26, 18, 11, 6] (joinsOf cadastrelaw3_LogicLaws_code)
noncomputable def cadastrelaw3_LogicLaws_S : List Code := scopesOf cadastrelaw3_LogicLaws_code
theorem cadastrelaw3_LogicLaws_l4_eq0 {ρ : Type} (k : Nat) (K : Ex → St UU → Option ρ) : ∀ (n : Nat) (v : (List S25) × Int × (List Int) × (List Int)), iterK UX (fun s => s.at (cadastrelaw3_LogicLaws_cfg (ρ := ρ) k).live (cadastrelaw3_LogicLaws_cfg (ρ := ρ) k).boxes (some 4)) (exec UX (cadastrelaw3_LogicLaws_cfg k) (cadastrelaw3_LogicLaws_G k) (cadastrelaw3_LogicLaws_L.getD 0 .skip)) n ⟨[(0, .pv (.typ (.l25 v.1))), (3, .ptr 3 0), (4, .ptr 4 0), (5, .pv (.int .i64 v.2.1))], [(3, [.pv (.typ (.a50 v.2.2.1))]), (4, [.pv (.typ (.a50 v.2.2.2))])]⟩ (nrmK UX (cadastrelaw3_LogicLaws_cfg k) 4 K) = cadastrelaw3_LogicLaws_l4 k (fun t2 => K .ret ⟨[(2, .pv (.bool t2))], []⟩) (K (.exit 0) ⟨[], []⟩) n v.1 v.2.1 v.2.2.1 v.2.2.2 :=
  iter_rec (X := UX) (fun v => ⟨[(0, .pv (.typ (.l25 v.1))), (3, .ptr 3 0), (4, .ptr 4 0), (5, .pv (.int .i64 v.2.1))], [(3, [.pv (.typ (.a50 v.2.2.1))]), (4, [.pv (.typ (.a50 v.2.2.2))])]⟩) (fun rec v => cadastrelaw3_LogicLaws_l4_b k (fun t2 => K .ret ⟨[(2, .pv (.bool t2))], []⟩) (K (.exit 0) ⟨[], []⟩) (fun l0 i5 opposite3_0 mirrored4_0 => rec (l0, i5, opposite3_0, mirrored4_0)) v.1 v.2.1 v.2.2.1 v.2.2.2) (fun n v => cadastrelaw3_LogicLaws_l4 k (fun t2 => K .ret ⟨[(2, .pv (.bool t2))], []⟩) (K (.exit 0) ⟨[], []⟩) n v.1 v.2.1 v.2.2.1 v.2.2.2) (fun n v => by kernel_rfl) (fun _ => rfl) (fun _ _ => rfl)
theorem cadastrelaw3_LogicLaws_l4_ok0 {ρ : Type} (k : Nat) : IterOK UX (cadastrelaw3_LogicLaws_cfg (ρ := ρ) k) (cadastrelaw3_LogicLaws_G k) (cadastrelaw3_LogicLaws_L.getD 0 .skip) 4 (cadastrelaw3_LogicLaws_l4_s k) := by
  intro s K r h
  obtain ⟨env, hp⟩ := s
  unfold cadastrelaw3_LogicLaws_l4_s at h
  replace h := popS_inv h; obtain ⟨v1, e2, rfl, h⟩ := h
  replace h := as_l25_inv h; obtain ⟨l0, rfl, h⟩ := h
  replace h := popS_inv h; obtain ⟨v3, e4, rfl, h⟩ := h
  replace h := asP_inv h; obtain ⟨rfl, h⟩ := h
  replace h := popS_inv h; obtain ⟨v5, e6, rfl, h⟩ := h
  replace h := asP_inv h; obtain ⟨rfl, h⟩ := h
  replace h := popS_inv h; obtain ⟨v7, e8, rfl, h⟩ := h
  replace h := asI_inv h; obtain ⟨i5, rfl, h⟩ := h
  replace h := popN_inv h; obtain ⟨rfl, h⟩ := h
  replace h := popB_inv h; obtain ⟨c9, e10, rfl, h⟩ := h
  replace h := popA_inv h; obtain ⟨v11, c12, rfl, h⟩ := h
  replace h := as_a50_inv h; obtain ⟨z13, rfl, h⟩ := h
  replace h := popN_inv h; obtain ⟨rfl, h⟩ := h
  replace h := popB_inv h; obtain ⟨c14, e15, rfl, h⟩ := h
  replace h := popA_inv h; obtain ⟨v16, c17, rfl, h⟩ := h
  replace h := as_a50_inv h; obtain ⟨z18, rfl, h⟩ := h
  replace h := popN_inv h; obtain ⟨rfl, h⟩ := h
  replace h := popN_inv h; obtain ⟨rfl, h⟩ := h
  exact ⟨k, (cadastrelaw3_LogicLaws_l4_eq0 k K k (l0, i5, z13, z18)).trans h⟩
theorem cadastrelaw3_LogicLaws_l19_eq1 {ρ : Type} (k : Nat) (K : Ex → St UU → Option ρ) : ∀ (n : Nat) (v : (List S25) × Int × Int × (List Int) × (List Int) × S25), iterK UX (fun s => s.at (cadastrelaw3_LogicLaws_cfg (ρ := ρ) k).live (cadastrelaw3_LogicLaws_cfg (ρ := ρ) k).boxes (some 19)) (exec UX (cadastrelaw3_LogicLaws_cfg k) (cadastrelaw3_LogicLaws_G k) (cadastrelaw3_LogicLaws_L.getD 1 .skip)) n ⟨[(0, .pv (.typ (.l25 v.1))), (3, .ptr 3 0), (4, .ptr 4 0), (5, .pv (.int .i64 v.2.1)), (6, .ptr 6 0), (19, .pv (.int .i64 v.2.2.1))], [(3, [.pv (.typ (.a50 v.2.2.2.1))]), (4, [.pv (.typ (.a50 v.2.2.2.2.1))]), (6, [.pv (.int .i64 v.2.2.2.2.2.f0.f0), .pv (.int .i64 v.2.2.2.2.2.f0.f1), .pv (.str v.2.2.2.2.2.f0.f2), .pv (.int .i64 v.2.2.2.2.2.f1.f0), .pv (.int .i64 v.2.2.2.2.2.f1.f1), .pv (.str v.2.2.2.2.2.f1.f2), .pv (.int .i64 v.2.2.2.2.2.f2)])]⟩ (nrmK UX (cadastrelaw3_LogicLaws_cfg k) 19 K) = cadastrelaw3_LogicLaws_l19 k (fun t2 => K .ret ⟨[(2, .pv (.bool t2))], []⟩) (fun l0 i5 opposite3_0 mirrored4_0 => K (.exit 2) ⟨[(0, .pv (.typ (.l25 l0))), (3, .ptr 3 0), (4, .ptr 4 0), (5, .pv (.int .i64 i5))], [(3, [.pv (.typ (.a50 opposite3_0))]), (4, [.pv (.typ (.a50 mirrored4_0))])]⟩) n v.1 v.2.1 v.2.2.1 v.2.2.2.1 v.2.2.2.2.1 v.2.2.2.2.2 :=
  iter_rec (X := UX) (fun v => ⟨[(0, .pv (.typ (.l25 v.1))), (3, .ptr 3 0), (4, .ptr 4 0), (5, .pv (.int .i64 v.2.1)), (6, .ptr 6 0), (19, .pv (.int .i64 v.2.2.1))], [(3, [.pv (.typ (.a50 v.2.2.2.1))]), (4, [.pv (.typ (.a50 v.2.2.2.2.1))]), (6, [.pv (.int .i64 v.2.2.2.2.2.f0.f0), .pv (.int .i64 v.2.2.2.2.2.f0.f1), .pv (.str v.2.2.2.2.2.f0.f2), .pv (.int .i64 v.2.2.2.2.2.f1.f0), .pv (.int .i64 v.2.2.2.2.2.f1.f1), .pv (.str v.2.2.2.2.2.f1.f2), .pv (.int .i64 v.2.2.2.2.2.f2)])]⟩) (fun rec v => cadastrelaw3_LogicLaws_l19_b k (fun t2 => K .ret ⟨[(2, .pv (.bool t2))], []⟩) (fun l0 i5 opposite3_0 mirrored4_0 => K (.exit 2) ⟨[(0, .pv (.typ (.l25 l0))), (3, .ptr 3 0), (4, .ptr 4 0), (5, .pv (.int .i64 i5))], [(3, [.pv (.typ (.a50 opposite3_0))]), (4, [.pv (.typ (.a50 mirrored4_0))])]⟩) (fun l0 i5 q19 opposite3_0 mirrored4_0 p6 => rec (l0, i5, q19, opposite3_0, mirrored4_0, p6)) v.1 v.2.1 v.2.2.1 v.2.2.2.1 v.2.2.2.2.1 v.2.2.2.2.2) (fun n v => cadastrelaw3_LogicLaws_l19 k (fun t2 => K .ret ⟨[(2, .pv (.bool t2))], []⟩) (fun l0 i5 opposite3_0 mirrored4_0 => K (.exit 2) ⟨[(0, .pv (.typ (.l25 l0))), (3, .ptr 3 0), (4, .ptr 4 0), (5, .pv (.int .i64 i5))], [(3, [.pv (.typ (.a50 opposite3_0))]), (4, [.pv (.typ (.a50 mirrored4_0))])]⟩) n v.1 v.2.1 v.2.2.1 v.2.2.2.1 v.2.2.2.2.1 v.2.2.2.2.2) (fun n v => by kernel_rfl) (fun _ => rfl) (fun _ _ => rfl)
theorem cadastrelaw3_LogicLaws_l19_ok1 {ρ : Type} (k : Nat) : IterOK UX (cadastrelaw3_LogicLaws_cfg (ρ := ρ) k) (cadastrelaw3_LogicLaws_G k) (cadastrelaw3_LogicLaws_L.getD 1 .skip) 19 (cadastrelaw3_LogicLaws_l19_s k) := by
  intro s K r h
  obtain ⟨env, hp⟩ := s
  unfold cadastrelaw3_LogicLaws_l19_s at h
  replace h := popS_inv h; obtain ⟨v1, e2, rfl, h⟩ := h
  replace h := as_l25_inv h; obtain ⟨l0, rfl, h⟩ := h
  replace h := popS_inv h; obtain ⟨v3, e4, rfl, h⟩ := h
  replace h := asP_inv h; obtain ⟨rfl, h⟩ := h
  replace h := popS_inv h; obtain ⟨v5, e6, rfl, h⟩ := h
  replace h := asP_inv h; obtain ⟨rfl, h⟩ := h
  replace h := popS_inv h; obtain ⟨v7, e8, rfl, h⟩ := h
  replace h := asI_inv h; obtain ⟨i5, rfl, h⟩ := h
  replace h := popS_inv h; obtain ⟨v9, e10, rfl, h⟩ := h
  replace h := asP_inv h; obtain ⟨rfl, h⟩ := h
  replace h := popS_inv h; obtain ⟨v11, e12, rfl, h⟩ := h
  replace h := asI_inv h; obtain ⟨q19, rfl, h⟩ := h
  replace h := popN_inv h; obtain ⟨rfl, h⟩ := h
  replace h := popB_inv h; obtain ⟨c13, e14, rfl, h⟩ := h
  replace h := popA_inv h; obtain ⟨v15, c16, rfl, h⟩ := h
  replace h := as_a50_inv h; obtain ⟨z17, rfl, h⟩ := h
  replace h := popN_inv h; obtain ⟨rfl, h⟩ := h
  replace h := popB_inv h; obtain ⟨c18, e19, rfl, h⟩ := h
  replace h := popA_inv h; obtain ⟨v20, c21, rfl, h⟩ := h
  replace h := as_a50_inv h; obtain ⟨z22, rfl, h⟩ := h
  replace h := popN_inv h; obtain ⟨rfl, h⟩ := h
  replace h := popB_inv h; obtain ⟨c23, e24, rfl, h⟩ := h
  replace h := popA_inv h; obtain ⟨v25, c26, rfl, h⟩ := h
  replace h := asI_inv h; obtain ⟨z27, rfl, h⟩ := h
  replace h := popA_inv h; obtain ⟨v28, c29, rfl, h⟩ := h
  replace h := asI_inv h; obtain ⟨z30, rfl, h⟩ := h
  replace h := popA_inv h; obtain ⟨v31, c32, rfl, h⟩ := h
  replace h := asS_inv h; obtain ⟨z33, rfl, h⟩ := h
  replace h := popA_inv h; obtain ⟨v34, c35, rfl, h⟩ := h
  replace h := asI_inv h; obtain ⟨z36, rfl, h⟩ := h
  replace h := popA_inv h; obtain ⟨v37, c38, rfl, h⟩ := h
  replace h := asI_inv h; obtain ⟨z39, rfl, h⟩ := h
  replace h := popA_inv h; obtain ⟨v40, c41, rfl, h⟩ := h
  replace h := asS_inv h; obtain ⟨z42, rfl, h⟩ := h
  replace h := popA_inv h; obtain ⟨v43, c44, rfl, h⟩ := h
  replace h := asI_inv h; obtain ⟨z45, rfl, h⟩ := h
  replace h := popN_inv h; obtain ⟨rfl, h⟩ := h
  replace h := popN_inv h; obtain ⟨rfl, h⟩ := h
  exact ⟨k, (cadastrelaw3_LogicLaws_l19_eq1 k K k (l0, i5, q19, z17, z22, (⟨(⟨z27, z30, z33⟩ : S23), (⟨z36, z39, z42⟩ : S23), z45⟩ : S25))).trans h⟩
theorem cadastrelaw3_LogicLaws_j6_eq0 {ρ : Type} (k : Nat) (K : Ex → St UU → Option ρ) (l0 : List S25) (i5 : Int) (opposite3_0 : List Int) (mirrored4_0 : List Int) : exec UX (cadastrelaw3_LogicLaws_cfg k) (cadastrelaw3_LogicLaws_G k) (cadastrelaw3_LogicLaws_J.getD 0 .skip) ⟨[(0, .pv (.typ (.l25 l0))), (3, .ptr 3 0), (4, .ptr 4 0), (5, .pv (.int .i64 i5))], [(3, [.pv (.typ (.a50 opposite3_0))]), (4, [.pv (.typ (.a50 mirrored4_0))])]⟩ (nrmK UX (cadastrelaw3_LogicLaws_cfg k) 6 K) = cadastrelaw3_LogicLaws_j6 k (fun t2 => K .ret ⟨[(2, .pv (.bool t2))], []⟩) (fun l0 i5 opposite3_0 mirrored4_0 => K .nxt ⟨[(0, .pv (.typ (.l25 l0))), (3, .ptr 3 0), (4, .ptr 4 0), (5, .pv (.int .i64 i5))], [(3, [.pv (.typ (.a50 opposite3_0))]), (4, [.pv (.typ (.a50 mirrored4_0))])]⟩) l0 i5 opposite3_0 mirrored4_0 := by kernel_rfl
theorem cadastrelaw3_LogicLaws_j6_ok0 {ρ : Type} (k : Nat) : JoinOK UX (cadastrelaw3_LogicLaws_cfg (ρ := ρ) k) (cadastrelaw3_LogicLaws_G k) (cadastrelaw3_LogicLaws_J.getD 0 .skip) 6 (cadastrelaw3_LogicLaws_j6_s k) := by
  intro s K r h
  obtain ⟨env, hp⟩ := s
  unfold cadastrelaw3_LogicLaws_j6_s at h
  replace h := popS_inv h; obtain ⟨v1, e2, rfl, h⟩ := h
  replace h := as_l25_inv h; obtain ⟨l0, rfl, h⟩ := h
  replace h := popS_inv h; obtain ⟨v3, e4, rfl, h⟩ := h
  replace h := asP_inv h; obtain ⟨rfl, h⟩ := h
  replace h := popS_inv h; obtain ⟨v5, e6, rfl, h⟩ := h
  replace h := asP_inv h; obtain ⟨rfl, h⟩ := h
  replace h := popS_inv h; obtain ⟨v7, e8, rfl, h⟩ := h
  replace h := asI_inv h; obtain ⟨i5, rfl, h⟩ := h
  replace h := popN_inv h; obtain ⟨rfl, h⟩ := h
  replace h := popB_inv h; obtain ⟨c9, e10, rfl, h⟩ := h
  replace h := popA_inv h; obtain ⟨v11, c12, rfl, h⟩ := h
  replace h := as_a50_inv h; obtain ⟨z13, rfl, h⟩ := h
  replace h := popN_inv h; obtain ⟨rfl, h⟩ := h
  replace h := popB_inv h; obtain ⟨c14, e15, rfl, h⟩ := h
  replace h := popA_inv h; obtain ⟨v16, c17, rfl, h⟩ := h
  replace h := as_a50_inv h; obtain ⟨z18, rfl, h⟩ := h
  replace h := popN_inv h; obtain ⟨rfl, h⟩ := h
  replace h := popN_inv h; obtain ⟨rfl, h⟩ := h
  exact (cadastrelaw3_LogicLaws_j6_eq0 k K l0 i5 z13 z18).trans h
theorem cadastrelaw3_LogicLaws_j11_eq1 {ρ : Type} (k : Nat) (K : Ex → St UU → Option ρ) (l0 : List S25) (i5 : Int) (e8 : Int) (opposite3_0 : List Int) (mirrored4_0 : List Int) (p6 : S25) (a7 : S23) : exec UX (cadastrelaw3_LogicLaws_cfg k) (cadastrelaw3_LogicLaws_G k) (cadastrelaw3_LogicLaws_J.getD 1 .skip) ⟨[(0, .pv (.typ (.l25 l0))), (3, .ptr 3 0), (4, .ptr 4 0), (5, .pv (.int .i64 i5)), (6, .ptr 6 0), (7, .ptr 7 0), (8, .pv (.int .i64 e8))], [(3, [.pv (.typ (.a50 opposite3_0))]), (4, [.pv (.typ (.a50 mirrored4_0))]), (6, [.pv (.int .i64 p6.f0.f0), .pv (.int .i64 p6.f0.f1), .pv (.str p6.f0.f2), .pv (.int .i64 p6.f1.f0), .pv (.int .i64 p6.f1.f1), .pv (.str p6.f1.f2), .pv (.int .i64 p6.f2)]), (7, [.pv (.int .i64 a7.f0), .pv (.int .i64 a7.f1), .pv (.str a7.f2)])]⟩ (nrmK UX (cadastrelaw3_LogicLaws_cfg k) 11 K) = cadastrelaw3_LogicLaws_j11 k (fun t2 => K .ret ⟨[(2, .pv (.bool t2))], []⟩) (fun l0 i5 opposite3_0 mirrored4_0 => K .nxt ⟨[(0, .pv (.typ (.l25 l0))), (3, .ptr 3 0), (4, .ptr 4 0), (5, .pv (.int .i64 i5))], [(3, [.pv (.typ (.a50 opposite3_0))]), (4, [.pv (.typ (.a50 mirrored4_0))])]⟩) l0 i5 e8 opposite3_0 mirrored4_0 p6 a7 := by kernel_rfl
theorem cadastrelaw3_LogicLaws_j11_ok1 {ρ : Type} (k : Nat) : JoinOK UX (cadastrelaw3_LogicLaws_cfg (ρ := ρ) k) (cadastrelaw3_LogicLaws_G k) (cadastrelaw3_LogicLaws_J.getD 1 .skip) 11 (cadastrelaw3_LogicLaws_j11_s k) := by
  intro s K r h
  obtain ⟨env, hp⟩ := s
  unfold cadastrelaw3_LogicLaws_j11_s at h
  replace h := popS_inv h; obtain ⟨v1, e2, rfl, h⟩ := h
  replace h := as_l25_inv h; obtain ⟨l0, rfl, h⟩ := h
  replace h := popS_inv h; obtain ⟨v3, e4, rfl, h⟩ := h
  replace h := asP_inv h; obtain ⟨rfl, h⟩ := h
  replace h := popS_inv h; obtain ⟨v5, e6, rfl, h⟩ := h
  replace h := asP_inv h; obtain ⟨rfl, h⟩ := h
  replace h := popS_inv h; obtain ⟨v7, e8, rfl, h⟩ := h
  replace h := asI_inv h; obtain ⟨i5, rfl, h⟩ := h
  replace h := popS_inv h; obtain ⟨v9, e10, rfl, h⟩ := h
  replace h := asP_inv h; obtain ⟨rfl, h⟩ := h
  replace h := popS_inv h; obtain ⟨v11, e12, rfl, h⟩ := h
  replace h := asP_inv h; obtain ⟨rfl, h⟩ := h
  replace h := popS_inv h; obtain ⟨v13, e14, rfl, h⟩ := h
  replace h := asI_inv h; obtain ⟨e8, rfl, h⟩ := h
  replace h := popN_inv h; obtain ⟨rfl, h⟩ := h
  replace h := popB_inv h; obtain ⟨c15, e16, rfl, h⟩ := h
  replace h := popA_inv h; obtain ⟨v17, c18, rfl, h⟩ := h
  replace h := as_a50_inv h; obtain ⟨z19, rfl, h⟩ := h
  replace h := popN_inv h; obtain ⟨rfl, h⟩ := h
  replace h := popB_inv h; obtain ⟨c20, e21, rfl, h⟩ := h
  replace h := popA_inv h; obtain ⟨v22, c23, rfl, h⟩ := h
  replace h := as_a50_inv h; obtain ⟨z24, rfl, h⟩ := h
  replace h := popN_inv h; obtain ⟨rfl, h⟩ := h
  replace h := popB_inv h; obtain ⟨c25, e26, rfl, h⟩ := h
  replace h := popA_inv h; obtain ⟨v27, c28, rfl, h⟩ := h
  replace h := asI_inv h; obtain ⟨z29, rfl, h⟩ := h
  replace h := popA_inv h; obtain ⟨v30, c31, rfl, h⟩ := h
  replace h := asI_inv h; obtain ⟨z32, rfl, h⟩ := h
  replace h := popA_inv h; obtain ⟨v33, c34, rfl, h⟩ := h
  replace h := asS_inv h; obtain ⟨z35, rfl, h⟩ := h
  replace h := popA_inv h; obtain ⟨v36, c37, rfl, h⟩ := h
  replace h := asI_inv h; obtain ⟨z38, rfl, h⟩ := h
  replace h := popA_inv h; obtain ⟨v39, c40, rfl, h⟩ := h
  replace h := asI_inv h; obtain ⟨z41, rfl, h⟩ := h
  replace h := popA_inv h; obtain ⟨v42, c43, rfl, h⟩ := h
  replace h := asS_inv h; obtain ⟨z44, rfl, h⟩ := h
  replace h := popA_inv h; obtain ⟨v45, c46, rfl, h⟩ := h
  replace h := asI_inv h; obtain ⟨z47, rfl, h⟩ := h
  replace h := popN_inv h; obtain ⟨rfl, h⟩ := h
  replace h := popB_inv h; obtain ⟨c48, e49, rfl, h⟩ := h
  replace h := popA_inv h; obtain ⟨v50, c51, rfl, h⟩ := h
  replace h := asI_inv h; obtain ⟨z52, rfl, h⟩ := h
  replace h := popA_inv h; obtain ⟨v53, c54, rfl, h⟩ := h
  replace h := asI_inv h; obtain ⟨z55, rfl, h⟩ := h
  replace h := popA_inv h; obtain ⟨v56, c57, rfl, h⟩ := h
  replace h := asS_inv h; obtain ⟨z58, rfl, h⟩ := h
  replace h := popN_inv h; obtain ⟨rfl, h⟩ := h
  replace h := popN_inv h; obtain ⟨rfl, h⟩ := h
  exact (cadastrelaw3_LogicLaws_j11_eq1 k K l0 i5 e8 z19 z24 (⟨(⟨z29, z32, z35⟩ : S23), (⟨z38, z41, z44⟩ : S23), z47⟩ : S25) (⟨z52, z55, z58⟩ : S23)).trans h
theorem cadastrelaw3_LogicLaws_j18_eq2 {ρ : Type} (k : Nat) (K : Ex → St UU → Option ρ) (l0 : List S25) (i5 : Int) (opposite3_0 : List Int) (mirrored4_0 : List Int) (p6 : S25) : exec UX (cadastrelaw3_LogicLaws_cfg k) (cadastrelaw3_LogicLaws_G k) (cadastrelaw3_LogicLaws_J.getD 2 .skip) ⟨[(0, .pv (.typ (.l25 l0))), (3, .ptr 3 0), (4, .ptr 4 0), (5, .pv (.int .i64 i5)), (6, .ptr 6 0)], [(3, [.pv (.typ (.a50 opposite3_0))]), (4, [.pv (.typ (.a50 mirrored4_0))]), (6, [.pv (.int .i64 p6.f0.f0), .pv (.int .i64 p6.f0.f1), .pv (.str p6.f0.f2), .pv (.int .i64 p6.f1.f0), .pv (.int .i64 p6.f1.f1), .pv (.str p6.f1.f2), .pv (.int .i64 p6.f2)])]⟩ (nrmK UX (cadastrelaw3_LogicLaws_cfg k) 18 K) = cadastrelaw3_LogicLaws_j18 k (fun t2 => K .ret ⟨[(2, .pv (.bool t2))], []⟩) (fun l0 i5 opposite3_0 mirrored4_0 => K .nxt ⟨[(0, .pv (.typ (.l25 l0))), (3, .ptr 3 0), (4, .ptr 4 0), (5, .pv (.int .i64 i5))], [(3, [.pv (.typ (.a50 opposite3_0))]), (4, [.pv (.typ (.a50 mirrored4_0))])]⟩) l0 i5 opposite3_0 mirrored4_0 p6 := by kernel_rfl
theorem cadastrelaw3_LogicLaws_j18_ok2 {ρ : Type} (k : Nat) : JoinOK UX (cadastrelaw3_LogicLaws_cfg (ρ := ρ) k) (cadastrelaw3_LogicLaws_G k) (cadastrelaw3_LogicLaws_J.getD 2 .skip) 18 (cadastrelaw3_LogicLaws_j18_s k) := by
  intro s K r h
  obtain ⟨env, hp⟩ := s
  unfold cadastrelaw3_LogicLaws_j18_s at h
  replace h := popS_inv h; obtain ⟨v1, e2, rfl, h⟩ := h
  replace h := as_l25_inv h; obtain ⟨l0, rfl, h⟩ := h
  replace h := popS_inv h; obtain ⟨v3, e4, rfl, h⟩ := h
  replace h := asP_inv h; obtain ⟨rfl, h⟩ := h
  replace h := popS_inv h; obtain ⟨v5, e6, rfl, h⟩ := h
  replace h := asP_inv h; obtain ⟨rfl, h⟩ := h
  replace h := popS_inv h; obtain ⟨v7, e8, rfl, h⟩ := h
  replace h := asI_inv h; obtain ⟨i5, rfl, h⟩ := h
  replace h := popS_inv h; obtain ⟨v9, e10, rfl, h⟩ := h
  replace h := asP_inv h; obtain ⟨rfl, h⟩ := h
  replace h := popN_inv h; obtain ⟨rfl, h⟩ := h
  replace h := popB_inv h; obtain ⟨c11, e12, rfl, h⟩ := h
  replace h := popA_inv h; obtain ⟨v13, c14, rfl, h⟩ := h
  replace h := as_a50_inv h; obtain ⟨z15, rfl, h⟩ := h
  replace h := popN_inv h; obtain ⟨rfl, h⟩ := h
  replace h := popB_inv h; obtain ⟨c16, e17, rfl, h⟩ := h
  replace h := popA_inv h; obtain ⟨v18, c19, rfl, h⟩ := h
  replace h := as_a50_inv h; obtain ⟨z20, rfl, h⟩ := h
  replace h := popN_inv h; obtain ⟨rfl, h⟩ := h
  replace h := popB_inv h; obtain ⟨c21, e22, rfl, h⟩ := h
  replace h := popA_inv h; obtain ⟨v23, c24, rfl, h⟩ := h
  replace h := asI_inv h; obtain ⟨z25, rfl, h⟩ := h
  replace h := popA_inv h; obtain ⟨v26, c27, rfl, h⟩ := h
  replace h := asI_inv h; obtain ⟨z28, rfl, h⟩ := h
  replace h := popA_inv h; obtain ⟨v29, c30, rfl, h⟩ := h
  replace h := asS_inv h; obtain ⟨z31, rfl, h⟩ := h
  replace h := popA_inv h; obtain ⟨v32, c33, rfl, h⟩ := h
  replace h := asI_inv h; obtain ⟨z34, rfl, h⟩ := h
  replace h := popA_inv h; obtain ⟨v35, c36, rfl, h⟩ := h
  replace h := asI_inv h; obtain ⟨z37, rfl, h⟩ := h
  replace h := popA_inv h; obtain ⟨v38, c39, rfl, h⟩ := h
  replace h := asS_inv h; obtain ⟨z40, rfl, h⟩ := h
  replace h := popA_inv h; obtain ⟨v41, c42, rfl, h⟩ := h
  replace h := asI_inv h; obtain ⟨z43, rfl, h⟩ := h
  replace h := popN_inv h; obtain ⟨rfl, h⟩ := h
  replace h := popN_inv h; obtain ⟨rfl, h⟩ := h
  exact (cadastrelaw3_LogicLaws_j18_eq2 k K l0 i5 z15 z20 (⟨(⟨z25, z28, z31⟩ : S23), (⟨z34, z37, z40⟩ : S23), z43⟩ : S25)).trans h
theorem cadastrelaw3_LogicLaws_j26_eq3 {ρ : Type} (k : Nat) (K : Ex → St UU → Option ρ) (l0 : List S25) (i5 : Int) (q19 : Int) (g21 : Int) (opposite3_0 : List Int) (mirrored4_0 : List Int) (p6 : S25) (s20 : S23) (u24 : S23) : exec UX (cadastrelaw3_LogicLaws_cfg k) (cadastrelaw3_LogicLaws_G k) (cadastrelaw3_LogicLaws_J.getD 3 .skip) ⟨[(0, .pv (.typ (.l25 l0))), (3, .ptr 3 0), (4, .ptr 4 0), (5, .pv (.int .i64 i5)), (6, .ptr 6 0), (19, .pv (.int .i64 q19)), (20, .ptr 20 0), (21, .pv (.int .i64 g21)), (24, .ptr 24 0)], [(3, [.pv (.typ (.a50 opposite3_0))]), (4, [.pv (.typ (.a50 mirrored4_0))]), (6, [.pv (.int .i64 p6.f0.f0), .pv (.int .i64 p6.f0.f1), .pv (.str p6.f0.f2), .pv (.int .i64 p6.f1.f0), .pv (.int .i64 p6.f1.f1), .pv (.str p6.f1.f2), .pv (.int .i64 p6.f2)]), (20, [.pv (.int .i64 s20.f0), .pv (.int .i64 s20.f1), .pv (.str s20.f2)]), (24, [.pv (.int .i64 u24.f0), .pv (.int .i64 u24.f1), .pv (.str u24.f2)])]⟩ (nrmK UX (cadastrelaw3_LogicLaws_cfg k) 26 K) = cadastrelaw3_LogicLaws_j26 k (fun t2 => K .ret ⟨[(2, .pv (.bool t2))], []⟩) (fun l0 i5 q19 opposite3_0 mirrored4_0 p6 => K .nxt ⟨[(0, .pv (.typ (.l25 l0))), (3, .ptr 3 0), (4, .ptr 4 0), (5, .pv (.int .i64 i5)), (6, .ptr 6 0), (19, .pv (.int .i64 q19))], [(3, [.pv (.typ (.a50 opposite3_0))]), (4, [.pv (.typ (.a50 mirrored4_0))]), (6, [.pv (.int .i64 p6.f0.f0), .pv (.int .i64 p6.f0.f1), .pv (.str p6.f0.f2), .pv (.int .i64 p6.f1.f0), .pv (.int .i64 p6.f1.f1), .pv (.str p6.f1.f2), .pv (.int .i64 p6.f2)])]⟩) l0 i5 q19 g21 opposite3_0 mirrored4_0 p6 s20 u24 := by kernel_rfl
theorem cadastrelaw3_LogicLaws_j26_ok3 {ρ : Type} (k : Nat) : JoinOK UX (cadastrelaw3_LogicLaws_cfg (ρ := ρ) k) (cadastrelaw3_LogicLaws_G k) (cadastrelaw3_LogicLaws_J.getD 3 .skip) 26 (cadastrelaw3_LogicLaws_j26_s k) := by
  intro s K r h
  obtain ⟨env, hp⟩ := s
  unfold cadastrelaw3_LogicLaws_j26_s at h
  replace h := popS_inv h; obtain ⟨v1, e2, rfl, h⟩ := h
  replace h := as_l25_inv h; obtain ⟨l0, rfl, h⟩ := h
  replace h := popS_inv h; obtain ⟨v3, e4, rfl, h⟩ := h
  replace h := asP_inv h; obtain ⟨rfl, h⟩ := h
  replace h := popS_inv h; obtain ⟨v5, e6, rfl, h⟩ := h
  replace h := asP_inv h; obtain ⟨rfl, h⟩ := h
  replace h := popS_inv h; obtain ⟨v7, e8, rfl, h⟩ := h
  replace h := asI_inv h; obtain ⟨i5, rfl, h⟩ := h
  replace h := popS_inv h; obtain ⟨v9, e10, rfl, h⟩ := h
  replace h := asP_inv h; obtain ⟨rfl, h⟩ := h
  replace h := popS_inv h; obtain ⟨v11, e12, rfl, h⟩ := h
  replace h := asI_inv h; obtain ⟨q19, rfl, h⟩ := h
  replace h := popS_inv h; obtain ⟨v13, e14, rfl, h⟩ := h
  replace h := asP_inv h; obtain ⟨rfl, h⟩ := h
  replace h := popS_inv h; obtain ⟨v15, e16, rfl, h⟩ := h
  replace h := asI_inv h; obtain ⟨g21, rfl, h⟩ := h
  replace h := popS_inv h; obtain ⟨v17, e18, rfl, h⟩ := h
  replace h := asP_inv h; obtain ⟨rfl, h⟩ := h
  replace h := popN_inv h; obtain ⟨rfl, h⟩ := h
  replace h := popB_inv h; obtain ⟨c19, e20, rfl, h⟩ := h
  replace h := popA_inv h; obtain ⟨v21, c22, rfl, h⟩ := h
  replace h := as_a50_inv h; obtain ⟨z23, rfl, h⟩ := h
  replace h := popN_inv h; obtain ⟨rfl, h⟩ := h
  replace h := popB_inv h; obtain ⟨c24, e25, rfl, h⟩ := h
  replace h := popA_inv h; obtain ⟨v26, c27, rfl, h⟩ := h
  replace h := as_a50_inv h; obtain ⟨z28, rfl, h⟩ := h
  replace h := popN_inv h; obtain ⟨rfl, h⟩ := h
  replace h := popB_inv h; obtain ⟨c29, e30, rfl, h⟩ := h
  replace h := popA_inv h; obtain ⟨v31, c32, rfl, h⟩ := h
  replace h := asI_inv h; obtain ⟨z33, rfl, h⟩ := h
  replace h := popA_inv h; obtain ⟨v34, c35, rfl, h⟩ := h
  replace h := asI_inv h; obtain ⟨z36, rfl, h⟩ := h
  replace h := popA_inv h; obtain ⟨v37, c38, rfl, h⟩ := h
  replace h := asS_inv h; obtain ⟨z39, rfl, h⟩ := h
  replace h := popA_inv h; obtain ⟨v40, c41, rfl, h⟩ := h
  replace h := asI_inv h; obtain ⟨z42, rfl, h⟩ := h
  replace h := popA_inv h; obtain ⟨v43, c44, rfl, h⟩ := h
  replace h := asI_inv h; obtain ⟨z45, rfl, h⟩ := h
  replace h := popA_inv h; obtain ⟨v46, c47, rfl, h⟩ := h
  replace h := asS_inv h; obtain ⟨z48, rfl, h⟩ := h
  replace h := popA_inv h; obtain ⟨v49, c50, rfl, h⟩ := h
  replace h := asI_inv h; obtain ⟨z51, rfl, h⟩ := h
  replace h := popN_inv h; obtain ⟨rfl, h⟩ := h
  replace h := popB_inv h; obtain ⟨c52, e53, rfl, h⟩ := h
  replace h := popA_inv h; obtain ⟨v54, c55, rfl, h⟩ := h
  replace h := asI_inv h; obtain ⟨z56, rfl, h⟩ := h
  replace h := popA_inv h; obtain ⟨v57, c58, rfl, h⟩ := h
  replace h := asI_inv h; obtain ⟨z59, rfl, h⟩ := h
  replace h := popA_inv h; obtain ⟨v60, c61, rfl, h⟩ := h
  replace h := asS_inv h; obtain ⟨z62, rfl, h⟩ := h
  replace h := popN_inv h; obtain ⟨rfl, h⟩ := h
  replace h := popB_inv h; obtain ⟨c63, e64, rfl, h⟩ := h
  replace h := popA_inv h; obtain ⟨v65, c66, rfl, h⟩ := h
  replace h := asI_inv h; obtain ⟨z67, rfl, h⟩ := h
  replace h := popA_inv h; obtain ⟨v68, c69, rfl, h⟩ := h
  replace h := asI_inv h; obtain ⟨z70, rfl, h⟩ := h
  replace h := popA_inv h; obtain ⟨v71, c72, rfl, h⟩ := h
  replace h := asS_inv h; obtain ⟨z73, rfl, h⟩ := h
  replace h := popN_inv h; obtain ⟨rfl, h⟩ := h
  replace h := popN_inv h; obtain ⟨rfl, h⟩ := h
  exact (cadastrelaw3_LogicLaws_j26_eq3 k K l0 i5 q19 g21 z23 z28 (⟨(⟨z33, z36, z39⟩ : S23), (⟨z42, z45, z48⟩ : S23), z51⟩ : S25) (⟨z56, z59, z62⟩ : S23) (⟨z67, z70, z73⟩ : S23)).trans h
theorem cadastrelaw3_LogicLaws_cok {ρ : Type} (k : Nat) : COK (cadastrelaw3_LogicLaws_cfg (ρ := ρ) k) (cadastrelaw3_LogicLaws_G k) cadastrelaw3_LogicLaws_code :=
  cok_of (tl := [(19, cadastrelaw3_LogicLaws_l19_s k), (4, cadastrelaw3_LogicLaws_l4_s k)]) (tj := [(26, cadastrelaw3_LogicLaws_j26_s k), (18, cadastrelaw3_LogicLaws_j18_s k), (11, cadastrelaw3_LogicLaws_j11_s k), (6, cadastrelaw3_LogicLaws_j6_s k)]) (tb := []) rfl rfl rfl (all_nth 2 (by kernel_rfl) ⟨iter_case (by kernel_rfl) rfl (cadastrelaw3_LogicLaws_l19_ok1 k), iter_case (by kernel_rfl) rfl (cadastrelaw3_LogicLaws_l4_ok0 k), trivial⟩) (all_nth 4 (by kernel_rfl) ⟨join_case (by kernel_rfl) rfl (cadastrelaw3_LogicLaws_j26_ok3 k), join_case (by kernel_rfl) rfl (cadastrelaw3_LogicLaws_j18_ok2 k), join_case (by kernel_rfl) rfl (cadastrelaw3_LogicLaws_j11_ok1 k), join_case (by kernel_rfl) rfl (cadastrelaw3_LogicLaws_j6_ok0 k), trivial⟩) (fun p hp => by cases hp)
noncomputable def cadastrelaw3_LogicLaws_enc (r : Bool) : AV UU := .pv (.bool r)
noncomputable def cadastrelaw3_LogicLaws_dec (v : AV UU) (_ : List (List (AV UU))) : Option Bool :=
asB v fun r0 =>
some r0
theorem cadastrelaw3_LogicLaws_dec_enc (v : AV UU) (b : List (List (AV UU))) (r : Bool) (h : cadastrelaw3_LogicLaws_dec v b = some r) : v = cadastrelaw3_LogicLaws_enc r := by
  unfold cadastrelaw3_LogicLaws_dec at h
  replace h := asB_inv h; obtain ⟨r0, rfl, h⟩ := h
  cases h
  rfl
theorem cadastrelaw3_LogicLaws_eq (k : Nat) (l0 : List S25) : bodyK UX (cadastrelaw3_LogicLaws_cfg k) (cadastrelaw3_LogicLaws_G k) Try.f6 [.pv (.typ (.l25 l0))] [] cadastrelaw3_LogicLaws_dec = cadastrelaw3_LogicLaws k l0 := by kernel_rfl
theorem cadastrelaw3_LogicLaws_con (k : Nat) (l0 : List S25) (r : Bool) (h : cadastrelaw3_LogicLaws k l0 = some r) : Con (X := UX) Try.prog 6 [.pv (.typ (.l25 l0))] [] (cadastrelaw3_LogicLaws_enc r) [] :=
  con_of_body xok tok Try.func6 cadastrelaw3_LogicLaws_body (cadastrelaw3_LogicLaws_gok k) rfl (cadastrelaw3_LogicLaws_cok k) (of_decide_eq_true (by kernel_rfl)) cadastrelaw3_LogicLaws_dec_enc ((cadastrelaw3_LogicLaws_eq k l0).trans h)
noncomputable def cadastrelaw3_LogicLaws_an {ρ : Type} (k : Nat) : An UX ρ := fun args bx K =>
popA args fun v1 a2 =>
as_l25 v1 fun l0 =>
popN a2 <|
popN bx <|
(cadastrelaw3_LogicLaws k l0).bind fun r => K (cadastrelaw3_LogicLaws_enc r) []
theorem cadastrelaw3_LogicLaws_ok {ρ : Type} (k : Nat) : AnsOK Try.prog 6 (cadastrelaw3_LogicLaws_an (ρ := ρ) k) := by
  intro args bx K r h
  unfold cadastrelaw3_LogicLaws_an at h
  replace h := popA_inv h; obtain ⟨v1, a2, rfl, h⟩ := h
  replace h := as_l25_inv h; obtain ⟨l0, rfl, h⟩ := h
  replace h := popN_inv h; obtain ⟨rfl, h⟩ := h
  replace h := popN_inv h; obtain ⟨rfl, h⟩ := h
  replace h := bind_inv h
  obtain ⟨x, hx, h⟩ := h
  exact ⟨there_of Try.func6 (by kernel_rfl) cadastrelaw3_LogicLaws_body, _, _, h, cadastrelaw3_LogicLaws_con k l0 x hx⟩

/-! cadastre/cadastreref2.Truth -/
noncomputable def cadastreref2_Truth_code : Code := match Try.f24.body with | some c => c | none => .skip
theorem cadastreref2_Truth_body : Try.f24.body = some cadastreref2_Truth_code := by kernel_rfl
noncomputable def cadastreref2_Truth_G {ρ : Type} (k : Nat) : Ans UX ρ := gnil
theorem cadastreref2_Truth_gok {ρ : Type} (k : Nat) : GOK Try.prog (cadastreref2_Truth_G (ρ := ρ) k) := gok_nil
noncomputable def cadastreref2_Truth_cfg {ρ : Type} (k : Nat) : Cfg UX ρ where
  live i := (assoc [(0, [0]), (1, [1]), (2, [1, 4]), (3, []), (4, [1, 4]), (5, [1]), (6, []), (7, []), (8, [])] i).getD []
  boxes i := (assoc [(0, []), (1, [1]), (2, [1]), (3, []), (4, [1]), (5, [1]), (6, []), (7, []), (8, [])] i).getD []
  tk _ := []
  n := 12
  labelR l := (assoc [] l).getD 0
  loops := assoc []
  labels := assoc []
  joins := assoc []
  xl i e := match e with
    | .nxt => assoc [] i
    | .ret => assoc [] i
    | .exit j => (assoc [] i).bind fun l => assoc l j
    | .goto j => (assoc [] i).bind fun l => assoc l j
noncomputable def cadastreref2_Truth_L : List Code := selI [] (loopsOf cadastreref2_Truth_code)
noncomputable def cadastreref2_Truth_J : List Code := selI [] (joinsOf cadastreref2_Truth_code)
noncomputable def cadastreref2_Truth_S : List Code := scopesOf cadastreref2_Truth_code
theorem cadastreref2_Truth_cok {ρ : Type} (k : Nat) : COK (cadastreref2_Truth_cfg (ρ := ρ) k) (cadastreref2_Truth_G k) cadastreref2_Truth_code :=
  cok_of (tl := []) (tj := []) (tb := []) rfl rfl rfl (nil_all (by kernel_rfl)) (nil_all (by kernel_rfl)) (fun p hp => by cases hp)
noncomputable def cadastreref2_Truth_enc (r : Int) : AV UU := .pv (.int .i64 r)
noncomputable def cadastreref2_Truth_dec (v : AV UU) (_ : List (List (AV UU))) : Option Int :=
asI .i64 v fun r0 =>
some r0
theorem cadastreref2_Truth_dec_enc (v : AV UU) (b : List (List (AV UU))) (r : Int) (h : cadastreref2_Truth_dec v b = some r) : v = cadastreref2_Truth_enc r := by
  unfold cadastreref2_Truth_dec at h
  replace h := asI_inv h; obtain ⟨r0, rfl, h⟩ := h
  cases h
  rfl
theorem cadastreref2_Truth_eq (k : Nat) (v0 : S23) : bodyK UX (cadastreref2_Truth_cfg k) (cadastreref2_Truth_G k) Try.f24 [.pv (.typ (.s23 v0))] [] cadastreref2_Truth_dec = cadastreref2_Truth k v0 := by kernel_rfl
theorem cadastreref2_Truth_con (k : Nat) (v0 : S23) (r : Int) (h : cadastreref2_Truth k v0 = some r) : Con (X := UX) Try.prog 24 [.pv (.typ (.s23 v0))] [] (cadastreref2_Truth_enc r) [] :=
  con_of_body xok tok Try.func24 cadastreref2_Truth_body (cadastreref2_Truth_gok k) rfl (cadastreref2_Truth_cok k) (of_decide_eq_true (by kernel_rfl)) cadastreref2_Truth_dec_enc ((cadastreref2_Truth_eq k v0).trans h)
noncomputable def cadastreref2_Truth_an {ρ : Type} (k : Nat) : An UX ρ := fun args bx K =>
popA args fun v1 a2 =>
as_s23 v1 fun v0 =>
popN a2 <|
popN bx <|
(cadastreref2_Truth k v0).bind fun r => K (cadastreref2_Truth_enc r) []
theorem cadastreref2_Truth_ok {ρ : Type} (k : Nat) : AnsOK Try.prog 24 (cadastreref2_Truth_an (ρ := ρ) k) := by
  intro args bx K r h
  unfold cadastreref2_Truth_an at h
  replace h := popA_inv h; obtain ⟨v1, a2, rfl, h⟩ := h
  replace h := as_s23_inv h; obtain ⟨v0, rfl, h⟩ := h
  replace h := popN_inv h; obtain ⟨rfl, h⟩ := h
  replace h := popN_inv h; obtain ⟨rfl, h⟩ := h
  replace h := bind_inv h
  obtain ⟨x, hx, h⟩ := h
  exact ⟨there_of Try.func24 (by kernel_rfl) cadastreref2_Truth_body, _, _, h, cadastreref2_Truth_con k v0 x hx⟩
end Go.Proofs.Ytahgjfdndpnpfaa.T
