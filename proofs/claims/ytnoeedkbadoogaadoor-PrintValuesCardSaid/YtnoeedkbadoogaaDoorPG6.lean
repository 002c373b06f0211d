/-
  What the program's functions answer: the printed functions' answers.
-/
import Derived.Test.YtnoeedkbadoogaaDoorPG5
namespace Go.Proofs.YtnoeedkbadoogaaDoor.P
open Go Go.AX
/-! cadastre/print.empty -/
noncomputable def print_empty_code : Code := match Tryd.f50.body with | some c => c | none => .skip
theorem print_empty_body : Tryd.f50.body = some print_empty_code := by kernel_rfl
noncomputable def print_empty_G {ρ : Type} (k : Nat) : Ans UX ρ := gnil
theorem print_empty_gok {ρ : Type} (k : Nat) : GOK Tryd.prog (print_empty_G (ρ := ρ) k) := gok_nil
noncomputable def print_empty_cfg {ρ : Type} (k : Nat) : Cfg UX ρ where
  live i := (assoc [(0, [0]), (1, [1])] i).getD []
  boxes i := (assoc [(0, []), (1, [1])] i).getD []
  tk i := (assoc [] i).getD []
  n := 55
  labelR l := (assoc [] l).getD 0
  loops := assoc []
  labels := assoc []
  joins := assoc []
  xl i e := match e with
    | .nxt => assoc [] i
    | .ret => assoc [] i
    | .exit j => (assoc [] i).bind fun l => assoc l j
    | .goto j => (assoc [] i).bind fun l => assoc l j
noncomputable def print_empty_L : List Code := selI [] (loopsOf print_empty_code)
noncomputable def print_empty_J : List Code := selI [] (joinsOf print_empty_code)
noncomputable def print_empty_S : List Code := scopesOf print_empty_code
theorem print_empty_cok {ρ : Type} (k : Nat) : COK (print_empty_cfg (ρ := ρ) k) (print_empty_G k) print_empty_code :=
  cok_of (tl := []) (tj := []) (tb := []) rfl rfl rfl (nil_all (by kernel_rfl)) (nil_all (by kernel_rfl)) (fun p hp => by cases hp)
noncomputable def print_empty_enc (r : Bool) : AV UU := .pv (.bool r)
noncomputable def print_empty_dec (v : AV UU) (_ : List (List (AV UU))) : Option Bool :=
asB v fun r0 =>
some r0
theorem print_empty_dec_enc (v : AV UU) (b : List (List (AV UU))) (r : Bool) (h : print_empty_dec v b = some r) : v = print_empty_enc r := by
  unfold print_empty_dec at h
  replace h := asB_inv h; obtain ⟨r0, rfl, h⟩ := h
  cases h
  rfl
theorem print_empty_eq (k : Nat) (s0 : S60) : bodyK UX (print_empty_cfg k) (print_empty_G k) Tryd.f50 [.pv (.typ (.s60 s0))] [] print_empty_dec = print_empty k s0 := by kernel_rfl
theorem print_empty_con (k : Nat) (s0 : S60) (r : Bool) (h : print_empty k s0 = some r) : Con (X := UX) Tryd.prog 50 [.pv (.typ (.s60 s0))] [] (print_empty_enc r) [] :=
  con_of_body xok tok Tryd.func50 print_empty_body (print_empty_gok k) rfl (print_empty_cok k) (of_decide_eq_true (by kernel_rfl)) print_empty_dec_enc ((print_empty_eq k s0).trans h)
noncomputable def print_empty_an {ρ : Type} (k : Nat) : An UX ρ := fun args bx K =>
popA args fun v1 a2 =>
as_s60 v1 fun s0 =>
popN a2 <|
popN bx <|
(print_empty k s0).bind fun r => K (print_empty_enc r) []
theorem print_empty_ok {ρ : Type} (k : Nat) : AnsOK Tryd.prog 50 (print_empty_an (ρ := ρ) k) := by
  intro args bx K r h
  unfold print_empty_an at h
  replace h := popA_inv h; obtain ⟨v1, a2, rfl, h⟩ := h
  replace h := as_s60_inv h; obtain ⟨s0, rfl, h⟩ := h
  replace h := popN_inv h; obtain ⟨rfl, h⟩ := h
  replace h := popN_inv h; obtain ⟨rfl, h⟩ := h
  replace h := bind_inv h
  obtain ⟨x, hx, h⟩ := h
  exact ⟨there_of Tryd.func50 (by kernel_rfl) print_empty_body, _, _, h, print_empty_con k s0 x hx⟩

/-! cadastre/print.exprs -/
noncomputable def print_exprs_code : Code := match Tryd.f51.body with | some c => c | none => .skip
theorem print_exprs_body : Tryd.f51.body = some print_exprs_code := by kernel_rfl
noncomputable def print_exprs_G {ρ : Type} (k : Nat) : Ans UX ρ := gnil
theorem print_exprs_gok {ρ : Type} (k : Nat) : GOK Tryd.prog (print_exprs_G (ρ := ρ) k) := gok_nil
noncomputable def print_exprs_l2_s {ρ : Type} (k : Nat) : Run UX ρ := fun s K =>
popS 1 s.env fun v1 e2 =>
asP 1 0 v1 <|
popS 2 e2 fun v3 e4 =>
asO_l25 v3 fun l2 =>
popS 10 e4 fun v5 e6 =>
as_ll25 v5 fun t10 =>
popS 11 e6 fun v7 e8 =>
asI .i64 v7 fun t11 =>
popS 12 e8 fun v9 e10 =>
asI .i64 v9 fun t12 =>
popN e10 <|
popB 1 s.hp fun c11 e12 =>
popA c11 fun v13 c14 =>
asI .i64 v13 fun z15 =>
popA c14 fun v16 c17 =>
asS v16 fun z18 =>
popA c17 fun v19 c20 =>
asS v19 fun z21 =>
popA c20 fun v22 c23 =>
asB v22 fun z24 =>
popA c23 fun v25 c26 =>
as_l113 v25 fun z27 =>
popA c26 fun v28 c29 =>
as_ls v28 fun z30 =>
popA c29 fun v31 c32 =>
as_ll25 v31 fun z33 =>
popA c32 fun v34 c35 =>
as_l90 v34 fun z36 =>
popA c35 fun v37 c38 =>
as_ls v37 fun z39 =>
popA c38 fun v40 c41 =>
asB v40 fun z42 =>
popA c41 fun v43 c44 =>
as_l25 v43 fun z45 =>
popA c44 fun v46 c47 =>
as_l25 v46 fun z48 =>
popA c47 fun v49 c50 =>
as_l106 v49 fun z51 =>
popN c50 <|
popN e12 <|
print_exprs_l2 k (fun l2 s1 => K (.exit 0) ⟨[(1, .ptr 1 0), (2, .own (.l25 l2))], [(1, [.pv (.int .i64 s1.f0), .pv (.str s1.f1), .pv (.str s1.f2), .pv (.bool s1.f3), .pv (.typ (.l113 s1.f4)), .pv (.typ (.ls s1.f5)), .pv (.typ (.ll25 s1.f6)), .pv (.typ (.l90 s1.f7)), .pv (.typ (.ls s1.f8)), .pv (.bool s1.f9), .pv (.typ (.l25 s1.f10)), .pv (.typ (.l25 s1.f11)), .pv (.typ (.l106 s1.f12))])]⟩) k l2 t10 t11 t12 (⟨z15, z18, z21, z24, z27, z30, z33, z36, z39, z42, z45, z48, z51⟩ : S60)
noncomputable def print_exprs_l7_s {ρ : Type} (k : Nat) : Run UX ρ := fun s K =>
popS 1 s.env fun v1 e2 =>
asP 1 0 v1 <|
popS 2 e2 fun v3 e4 =>
asO_l25 v3 fun l2 =>
popS 21 e4 fun v5 e6 =>
as_l90 v5 fun t21 =>
popS 22 e6 fun v7 e8 =>
asI .i64 v7 fun t22 =>
popS 23 e8 fun v9 e10 =>
asI .i64 v9 fun t23 =>
popN e10 <|
popB 1 s.hp fun c11 e12 =>
popA c11 fun v13 c14 =>
asI .i64 v13 fun z15 =>
popA c14 fun v16 c17 =>
asS v16 fun z18 =>
popA c17 fun v19 c20 =>
asS v19 fun z21 =>
popA c20 fun v22 c23 =>
asB v22 fun z24 =>
popA c23 fun v25 c26 =>
as_l113 v25 fun z27 =>
popA c26 fun v28 c29 =>
as_ls v28 fun z30 =>
popA c29 fun v31 c32 =>
as_ll25 v31 fun z33 =>
popA c32 fun v34 c35 =>
as_l90 v34 fun z36 =>
popA c35 fun v37 c38 =>
as_ls v37 fun z39 =>
popA c38 fun v40 c41 =>
asB v40 fun z42 =>
popA c41 fun v43 c44 =>
as_l25 v43 fun z45 =>
popA c44 fun v46 c47 =>
as_l25 v46 fun z48 =>
popA c47 fun v49 c50 =>
as_l106 v49 fun z51 =>
popN c50 <|
popN e12 <|
print_exprs_l7 k (fun l2 s1 => K (.exit 2) ⟨[(1, .ptr 1 0), (2, .own (.l25 l2))], [(1, [.pv (.int .i64 s1.f0), .pv (.str s1.f1), .pv (.str s1.f2), .pv (.bool s1.f3), .pv (.typ (.l113 s1.f4)), .pv (.typ (.ls s1.f5)), .pv (.typ (.ll25 s1.f6)), .pv (.typ (.l90 s1.f7)), .pv (.typ (.ls s1.f8)), .pv (.bool s1.f9), .pv (.typ (.l25 s1.f10)), .pv (.typ (.l25 s1.f11)), .pv (.typ (.l106 s1.f12))])]⟩) k l2 t21 t22 t23 (⟨z15, z18, z21, z24, z27, z30, z33, z36, z39, z42, z45, z48, z51⟩ : S60)
noncomputable def print_exprs_l13_s {ρ : Type} (k : Nat) : Run UX ρ := fun s K =>
popS 2 s.env fun v1 e2 =>
asO_l25 v1 fun l2 =>
popS 41 e2 fun v3 e4 =>
as_l106 v3 fun t41 =>
popS 42 e4 fun v5 e6 =>
asI .i64 v5 fun t42 =>
popS 43 e6 fun v7 e8 =>
asI .i64 v7 fun t43 =>
popN e8 <|
popN s.hp <|
print_exprs_l13 k (fun l2 => K (.exit 4) ⟨[(2, .own (.l25 l2))], []⟩) k l2 t41 t42 t43
noncomputable def print_exprs_cfg {ρ : Type} (k : Nat) : Cfg UX ρ where
  live i := (assoc [(0, [0]), (1, [1, 2]), (2, [1, 2, 10, 11, 12]), (3, [1, 2, 10, 11, 12]), (4, [1, 2, 4, 10, 11, 12]), (5, [1, 2, 10, 11, 12]), (6, [1, 2]), (7, [1, 2, 21, 22, 23]), (8, [1, 2, 21, 22, 23]), (9, [1, 2, 6, 21, 22, 23]), (10, [1, 2, 21, 22, 23]), (11, [1, 2]), (12, [1, 2]), (13, [2, 41, 42, 43]), (14, [2, 41, 42, 43]), (15, [2, 8, 41, 42, 43]), (16, [2, 41, 42, 43]), (17, [2])] i).getD []
  boxes i := (assoc [(0, []), (1, [1]), (2, [1]), (3, [1]), (4, [1]), (5, [1]), (6, [1]), (7, [1]), (8, [1]), (9, [1, 6]), (10, [1]), (11, [1]), (12, [1]), (13, []), (14, []), (15, [8]), (16, []), (17, [])] i).getD []
  tk i := (assoc [(1000000, [2])] i).getD []
  n := 54
  labelR l := (assoc [] l).getD 0
  loops := assoc [(2, print_exprs_l2_s k), (7, print_exprs_l7_s k), (13, print_exprs_l13_s k)]
  labels := assoc []
  joins := assoc []
  xl i e := match e with
    | .nxt => assoc [] i
    | .ret => assoc [] i
    | .exit j => (assoc [(2, [(0, ([1, 2], [1]))]), (7, [(2, ([1, 2], [1]))]), (13, [(4, ([2], []))])] i).bind fun l => assoc l j
    | .goto j => (assoc [] i).bind fun l => assoc l j
noncomputable def print_exprs_L : List Code := selI [2, 7, 13] (loopsOf print_exprs_code)
noncomputable def print_exprs_J : List Code := selI [] (joinsOf print_exprs_code)
noncomputable def print_exprs_S : List Code := scopesOf print_exprs_code
theorem print_exprs_l2_eq0 {ρ : Type} (k : Nat) (K : Ex → St UU → Option ρ) : ∀ (n : Nat) (v : (List T25) × (List (List T25)) × Int × Int × S60), iterK UX (fun s => s.at (print_exprs_cfg (ρ := ρ) k).live (print_exprs_cfg (ρ := ρ) k).boxes (some 2)) (exec UX (print_exprs_cfg k) (print_exprs_G k) (print_exprs_L.getD 0 .skip)) n ⟨[(1, .ptr 1 0), (2, .own (.l25 v.1)), (10, .pv (.typ (.ll25 v.2.1))), (11, .pv (.int .i64 v.2.2.1)), (12, .pv (.int .i64 v.2.2.2.1))], [(1, [.pv (.int .i64 v.2.2.2.2.f0), .pv (.str v.2.2.2.2.f1), .pv (.str v.2.2.2.2.f2), .pv (.bool v.2.2.2.2.f3), .pv (.typ (.l113 v.2.2.2.2.f4)), .pv (.typ (.ls v.2.2.2.2.f5)), .pv (.typ (.ll25 v.2.2.2.2.f6)), .pv (.typ (.l90 v.2.2.2.2.f7)), .pv (.typ (.ls v.2.2.2.2.f8)), .pv (.bool v.2.2.2.2.f9), .pv (.typ (.l25 v.2.2.2.2.f10)), .pv (.typ (.l25 v.2.2.2.2.f11)), .pv (.typ (.l106 v.2.2.2.2.f12))])]⟩ (nrmK UX (print_exprs_cfg k) 2 K) = print_exprs_l2 k (fun l2 s1 => K (.exit 0) ⟨[(1, .ptr 1 0), (2, .own (.l25 l2))], [(1, [.pv (.int .i64 s1.f0), .pv (.str s1.f1), .pv (.str s1.f2), .pv (.bool s1.f3), .pv (.typ (.l113 s1.f4)), .pv (.typ (.ls s1.f5)), .pv (.typ (.ll25 s1.f6)), .pv (.typ (.l90 s1.f7)), .pv (.typ (.ls s1.f8)), .pv (.bool s1.f9), .pv (.typ (.l25 s1.f10)), .pv (.typ (.l25 s1.f11)), .pv (.typ (.l106 s1.f12))])]⟩) n v.1 v.2.1 v.2.2.1 v.2.2.2.1 v.2.2.2.2 :=
  iter_rec (X := UX) (fun v => ⟨[(1, .ptr 1 0), (2, .own (.l25 v.1)), (10, .pv (.typ (.ll25 v.2.1))), (11, .pv (.int .i64 v.2.2.1)), (12, .pv (.int .i64 v.2.2.2.1))], [(1, [.pv (.int .i64 v.2.2.2.2.f0), .pv (.str v.2.2.2.2.f1), .pv (.str v.2.2.2.2.f2), .pv (.bool v.2.2.2.2.f3), .pv (.typ (.l113 v.2.2.2.2.f4)), .pv (.typ (.ls v.2.2.2.2.f5)), .pv (.typ (.ll25 v.2.2.2.2.f6)), .pv (.typ (.l90 v.2.2.2.2.f7)), .pv (.typ (.ls v.2.2.2.2.f8)), .pv (.bool v.2.2.2.2.f9), .pv (.typ (.l25 v.2.2.2.2.f10)), .pv (.typ (.l25 v.2.2.2.2.f11)), .pv (.typ (.l106 v.2.2.2.2.f12))])]⟩) (fun rec v => print_exprs_l2_b k (fun l2 s1 => K (.exit 0) ⟨[(1, .ptr 1 0), (2, .own (.l25 l2))], [(1, [.pv (.int .i64 s1.f0), .pv (.str s1.f1), .pv (.str s1.f2), .pv (.bool s1.f3), .pv (.typ (.l113 s1.f4)), .pv (.typ (.ls s1.f5)), .pv (.typ (.ll25 s1.f6)), .pv (.typ (.l90 s1.f7)), .pv (.typ (.ls s1.f8)), .pv (.bool s1.f9), .pv (.typ (.l25 s1.f10)), .pv (.typ (.l25 s1.f11)), .pv (.typ (.l106 s1.f12))])]⟩) (fun l2 t10 t11 t12 s1 => rec (l2, t10, t11, t12, s1)) v.1 v.2.1 v.2.2.1 v.2.2.2.1 v.2.2.2.2) (fun n v => print_exprs_l2 k (fun l2 s1 => K (.exit 0) ⟨[(1, .ptr 1 0), (2, .own (.l25 l2))], [(1, [.pv (.int .i64 s1.f0), .pv (.str s1.f1), .pv (.str s1.f2), .pv (.bool s1.f3), .pv (.typ (.l113 s1.f4)), .pv (.typ (.ls s1.f5)), .pv (.typ (.ll25 s1.f6)), .pv (.typ (.l90 s1.f7)), .pv (.typ (.ls s1.f8)), .pv (.bool s1.f9), .pv (.typ (.l25 s1.f10)), .pv (.typ (.l25 s1.f11)), .pv (.typ (.l106 s1.f12))])]⟩) n v.1 v.2.1 v.2.2.1 v.2.2.2.1 v.2.2.2.2) (fun n v => by kernel_rfl) (fun _ => rfl) (fun _ _ => rfl)
theorem print_exprs_l2_ok0 {ρ : Type} (k : Nat) : IterOK UX (print_exprs_cfg (ρ := ρ) k) (print_exprs_G k) (print_exprs_L.getD 0 .skip) 2 (print_exprs_l2_s k) := by
  intro s K r h
  obtain ⟨env, hp⟩ := s
  unfold print_exprs_l2_s at h
  replace h := popS_inv h; obtain ⟨v1, e2, rfl, h⟩ := h
  replace h := asP_inv h; obtain ⟨rfl, h⟩ := h
  replace h := popS_inv h; obtain ⟨v3, e4, rfl, h⟩ := h
  replace h := asO_l25_inv h; obtain ⟨l2, rfl, h⟩ := h
  replace h := popS_inv h; obtain ⟨v5, e6, rfl, h⟩ := h
  replace h := as_ll25_inv h; obtain ⟨t10, rfl, h⟩ := h
  replace h := popS_inv h; obtain ⟨v7, e8, rfl, h⟩ := h
  replace h := asI_inv h; obtain ⟨t11, rfl, h⟩ := h
  replace h := popS_inv h; obtain ⟨v9, e10, rfl, h⟩ := h
  replace h := asI_inv h; obtain ⟨t12, rfl, h⟩ := h
  replace h := popN_inv h; obtain ⟨rfl, h⟩ := h
  replace h := popB_inv h; obtain ⟨c11, e12, rfl, h⟩ := h
  replace h := popA_inv h; obtain ⟨v13, c14, rfl, h⟩ := h
  replace h := asI_inv h; obtain ⟨z15, rfl, h⟩ := h
  replace h := popA_inv h; obtain ⟨v16, c17, rfl, h⟩ := h
  replace h := asS_inv h; obtain ⟨z18, rfl, h⟩ := h
  replace h := popA_inv h; obtain ⟨v19, c20, rfl, h⟩ := h
  replace h := asS_inv h; obtain ⟨z21, rfl, h⟩ := h
  replace h := popA_inv h; obtain ⟨v22, c23, rfl, h⟩ := h
  replace h := asB_inv h; obtain ⟨z24, rfl, h⟩ := h
  replace h := popA_inv h; obtain ⟨v25, c26, rfl, h⟩ := h
  replace h := as_l113_inv h; obtain ⟨z27, rfl, h⟩ := h
  replace h := popA_inv h; obtain ⟨v28, c29, rfl, h⟩ := h
  replace h := as_ls_inv h; obtain ⟨z30, rfl, h⟩ := h
  replace h := popA_inv h; obtain ⟨v31, c32, rfl, h⟩ := h
  replace h := as_ll25_inv h; obtain ⟨z33, rfl, h⟩ := h
  replace h := popA_inv h; obtain ⟨v34, c35, rfl, h⟩ := h
  replace h := as_l90_inv h; obtain ⟨z36, rfl, h⟩ := h
  replace h := popA_inv h; obtain ⟨v37, c38, rfl, h⟩ := h
  replace h := as_ls_inv h; obtain ⟨z39, rfl, h⟩ := h
  replace h := popA_inv h; obtain ⟨v40, c41, rfl, h⟩ := h
  replace h := asB_inv h; obtain ⟨z42, rfl, h⟩ := h
  replace h := popA_inv h; obtain ⟨v43, c44, rfl, h⟩ := h
  replace h := as_l25_inv h; obtain ⟨z45, rfl, h⟩ := h
  replace h := popA_inv h; obtain ⟨v46, c47, rfl, h⟩ := h
  replace h := as_l25_inv h; obtain ⟨z48, rfl, h⟩ := h
  replace h := popA_inv h; obtain ⟨v49, c50, rfl, h⟩ := h
  replace h := as_l106_inv h; obtain ⟨z51, rfl, h⟩ := h
  replace h := popN_inv h; obtain ⟨rfl, h⟩ := h
  replace h := popN_inv h; obtain ⟨rfl, h⟩ := h
  exact ⟨k, (print_exprs_l2_eq0 k K k (l2, t10, t11, t12, (⟨z15, z18, z21, z24, z27, z30, z33, z36, z39, z42, z45, z48, z51⟩ : S60))).trans h⟩
theorem print_exprs_l7_eq1 {ρ : Type} (k : Nat) (K : Ex → St UU → Option ρ) : ∀ (n : Nat) (v : (List T25) × (List S90) × Int × Int × S60), iterK UX (fun s => s.at (print_exprs_cfg (ρ := ρ) k).live (print_exprs_cfg (ρ := ρ) k).boxes (some 7)) (exec UX (print_exprs_cfg k) (print_exprs_G k) (print_exprs_L.getD 1 .skip)) n ⟨[(1, .ptr 1 0), (2, .own (.l25 v.1)), (21, .pv (.typ (.l90 v.2.1))), (22, .pv (.int .i64 v.2.2.1)), (23, .pv (.int .i64 v.2.2.2.1))], [(1, [.pv (.int .i64 v.2.2.2.2.f0), .pv (.str v.2.2.2.2.f1), .pv (.str v.2.2.2.2.f2), .pv (.bool v.2.2.2.2.f3), .pv (.typ (.l113 v.2.2.2.2.f4)), .pv (.typ (.ls v.2.2.2.2.f5)), .pv (.typ (.ll25 v.2.2.2.2.f6)), .pv (.typ (.l90 v.2.2.2.2.f7)), .pv (.typ (.ls v.2.2.2.2.f8)), .pv (.bool v.2.2.2.2.f9), .pv (.typ (.l25 v.2.2.2.2.f10)), .pv (.typ (.l25 v.2.2.2.2.f11)), .pv (.typ (.l106 v.2.2.2.2.f12))])]⟩ (nrmK UX (print_exprs_cfg k) 7 K) = print_exprs_l7 k (fun l2 s1 => K (.exit 2) ⟨[(1, .ptr 1 0), (2, .own (.l25 l2))], [(1, [.pv (.int .i64 s1.f0), .pv (.str s1.f1), .pv (.str s1.f2), .pv (.bool s1.f3), .pv (.typ (.l113 s1.f4)), .pv (.typ (.ls s1.f5)), .pv (.typ (.ll25 s1.f6)), .pv (.typ (.l90 s1.f7)), .pv (.typ (.ls s1.f8)), .pv (.bool s1.f9), .pv (.typ (.l25 s1.f10)), .pv (.typ (.l25 s1.f11)), .pv (.typ (.l106 s1.f12))])]⟩) n v.1 v.2.1 v.2.2.1 v.2.2.2.1 v.2.2.2.2 :=
  iter_rec (X := UX) (fun v => ⟨[(1, .ptr 1 0), (2, .own (.l25 v.1)), (21, .pv (.typ (.l90 v.2.1))), (22, .pv (.int .i64 v.2.2.1)), (23, .pv (.int .i64 v.2.2.2.1))], [(1, [.pv (.int .i64 v.2.2.2.2.f0), .pv (.str v.2.2.2.2.f1), .pv (.str v.2.2.2.2.f2), .pv (.bool v.2.2.2.2.f3), .pv (.typ (.l113 v.2.2.2.2.f4)), .pv (.typ (.ls v.2.2.2.2.f5)), .pv (.typ (.ll25 v.2.2.2.2.f6)), .pv (.typ (.l90 v.2.2.2.2.f7)), .pv (.typ (.ls v.2.2.2.2.f8)), .pv (.bool v.2.2.2.2.f9), .pv (.typ (.l25 v.2.2.2.2.f10)), .pv (.typ (.l25 v.2.2.2.2.f11)), .pv (.typ (.l106 v.2.2.2.2.f12))])]⟩) (fun rec v => print_exprs_l7_b k (fun l2 s1 => K (.exit 2) ⟨[(1, .ptr 1 0), (2, .own (.l25 l2))], [(1, [.pv (.int .i64 s1.f0), .pv (.str s1.f1), .pv (.str s1.f2), .pv (.bool s1.f3), .pv (.typ (.l113 s1.f4)), .pv (.typ (.ls s1.f5)), .pv (.typ (.ll25 s1.f6)), .pv (.typ (.l90 s1.f7)), .pv (.typ (.ls s1.f8)), .pv (.bool s1.f9), .pv (.typ (.l25 s1.f10)), .pv (.typ (.l25 s1.f11)), .pv (.typ (.l106 s1.f12))])]⟩) (fun l2 t21 t22 t23 s1 => rec (l2, t21, t22, t23, s1)) v.1 v.2.1 v.2.2.1 v.2.2.2.1 v.2.2.2.2) (fun n v => print_exprs_l7 k (fun l2 s1 => K (.exit 2) ⟨[(1, .ptr 1 0), (2, .own (.l25 l2))], [(1, [.pv (.int .i64 s1.f0), .pv (.str s1.f1), .pv (.str s1.f2), .pv (.bool s1.f3), .pv (.typ (.l113 s1.f4)), .pv (.typ (.ls s1.f5)), .pv (.typ (.ll25 s1.f6)), .pv (.typ (.l90 s1.f7)), .pv (.typ (.ls s1.f8)), .pv (.bool s1.f9), .pv (.typ (.l25 s1.f10)), .pv (.typ (.l25 s1.f11)), .pv (.typ (.l106 s1.f12))])]⟩) n v.1 v.2.1 v.2.2.1 v.2.2.2.1 v.2.2.2.2) (fun n v => by kernel_rfl) (fun _ => rfl) (fun _ _ => rfl)
theorem print_exprs_l7_ok1 {ρ : Type} (k : Nat) : IterOK UX (print_exprs_cfg (ρ := ρ) k) (print_exprs_G k) (print_exprs_L.getD 1 .skip) 7 (print_exprs_l7_s k) := by
  intro s K r h
  obtain ⟨env, hp⟩ := s
  unfold print_exprs_l7_s at h
  replace h := popS_inv h; obtain ⟨v1, e2, rfl, h⟩ := h
  replace h := asP_inv h; obtain ⟨rfl, h⟩ := h
  replace h := popS_inv h; obtain ⟨v3, e4, rfl, h⟩ := h
  replace h := asO_l25_inv h; obtain ⟨l2, rfl, h⟩ := h
  replace h := popS_inv h; obtain ⟨v5, e6, rfl, h⟩ := h
  replace h := as_l90_inv h; obtain ⟨t21, rfl, h⟩ := h
  replace h := popS_inv h; obtain ⟨v7, e8, rfl, h⟩ := h
  replace h := asI_inv h; obtain ⟨t22, rfl, h⟩ := h
  replace h := popS_inv h; obtain ⟨v9, e10, rfl, h⟩ := h
  replace h := asI_inv h; obtain ⟨t23, rfl, h⟩ := h
  replace h := popN_inv h; obtain ⟨rfl, h⟩ := h
  replace h := popB_inv h; obtain ⟨c11, e12, rfl, h⟩ := h
  replace h := popA_inv h; obtain ⟨v13, c14, rfl, h⟩ := h
  replace h := asI_inv h; obtain ⟨z15, rfl, h⟩ := h
  replace h := popA_inv h; obtain ⟨v16, c17, rfl, h⟩ := h
  replace h := asS_inv h; obtain ⟨z18, rfl, h⟩ := h
  replace h := popA_inv h; obtain ⟨v19, c20, rfl, h⟩ := h
  replace h := asS_inv h; obtain ⟨z21, rfl, h⟩ := h
  replace h := popA_inv h; obtain ⟨v22, c23, rfl, h⟩ := h
  replace h := asB_inv h; obtain ⟨z24, rfl, h⟩ := h
  replace h := popA_inv h; obtain ⟨v25, c26, rfl, h⟩ := h
  replace h := as_l113_inv h; obtain ⟨z27, rfl, h⟩ := h
  replace h := popA_inv h; obtain ⟨v28, c29, rfl, h⟩ := h
  replace h := as_ls_inv h; obtain ⟨z30, rfl, h⟩ := h
  replace h := popA_inv h; obtain ⟨v31, c32, rfl, h⟩ := h
  replace h := as_ll25_inv h; obtain ⟨z33, rfl, h⟩ := h
  replace h := popA_inv h; obtain ⟨v34, c35, rfl, h⟩ := h
  replace h := as_l90_inv h; obtain ⟨z36, rfl, h⟩ := h
  replace h := popA_inv h; obtain ⟨v37, c38, rfl, h⟩ := h
  replace h := as_ls_inv h; obtain ⟨z39, rfl, h⟩ := h
  replace h := popA_inv h; obtain ⟨v40, c41, rfl, h⟩ := h
  replace h := asB_inv h; obtain ⟨z42, rfl, h⟩ := h
  replace h := popA_inv h; obtain ⟨v43, c44, rfl, h⟩ := h
  replace h := as_l25_inv h; obtain ⟨z45, rfl, h⟩ := h
  replace h := popA_inv h; obtain ⟨v46, c47, rfl, h⟩ := h
  replace h := as_l25_inv h; obtain ⟨z48, rfl, h⟩ := h
  replace h := popA_inv h; obtain ⟨v49, c50, rfl, h⟩ := h
  replace h := as_l106_inv h; obtain ⟨z51, rfl, h⟩ := h
  replace h := popN_inv h; obtain ⟨rfl, h⟩ := h
  replace h := popN_inv h; obtain ⟨rfl, h⟩ := h
  exact ⟨k, (print_exprs_l7_eq1 k K k (l2, t21, t22, t23, (⟨z15, z18, z21, z24, z27, z30, z33, z36, z39, z42, z45, z48, z51⟩ : S60))).trans h⟩
theorem print_exprs_l13_eq2 {ρ : Type} (k : Nat) (K : Ex → St UU → Option ρ) : ∀ (n : Nat) (v : (List T25) × (List S106) × Int × Int), iterK UX (fun s => s.at (print_exprs_cfg (ρ := ρ) k).live (print_exprs_cfg (ρ := ρ) k).boxes (some 13)) (exec UX (print_exprs_cfg k) (print_exprs_G k) (print_exprs_L.getD 2 .skip)) n ⟨[(2, .own (.l25 v.1)), (41, .pv (.typ (.l106 v.2.1))), (42, .pv (.int .i64 v.2.2.1)), (43, .pv (.int .i64 v.2.2.2))], []⟩ (nrmK UX (print_exprs_cfg k) 13 K) = print_exprs_l13 k (fun l2 => K (.exit 4) ⟨[(2, .own (.l25 l2))], []⟩) n v.1 v.2.1 v.2.2.1 v.2.2.2 :=
  iter_rec (X := UX) (fun v => ⟨[(2, .own (.l25 v.1)), (41, .pv (.typ (.l106 v.2.1))), (42, .pv (.int .i64 v.2.2.1)), (43, .pv (.int .i64 v.2.2.2))], []⟩) (fun rec v => print_exprs_l13_b k (fun l2 => K (.exit 4) ⟨[(2, .own (.l25 l2))], []⟩) (fun l2 t41 t42 t43 => rec (l2, t41, t42, t43)) v.1 v.2.1 v.2.2.1 v.2.2.2) (fun n v => print_exprs_l13 k (fun l2 => K (.exit 4) ⟨[(2, .own (.l25 l2))], []⟩) n v.1 v.2.1 v.2.2.1 v.2.2.2) (fun n v => by kernel_rfl) (fun _ => rfl) (fun _ _ => rfl)
theorem print_exprs_l13_ok2 {ρ : Type} (k : Nat) : IterOK UX (print_exprs_cfg (ρ := ρ) k) (print_exprs_G k) (print_exprs_L.getD 2 .skip) 13 (print_exprs_l13_s k) := by
  intro s K r h
  obtain ⟨env, hp⟩ := s
  unfold print_exprs_l13_s at h
  replace h := popS_inv h; obtain ⟨v1, e2, rfl, h⟩ := h
  replace h := asO_l25_inv h; obtain ⟨l2, rfl, h⟩ := h
  replace h := popS_inv h; obtain ⟨v3, e4, rfl, h⟩ := h
  replace h := as_l106_inv h; obtain ⟨t41, rfl, h⟩ := h
  replace h := popS_inv h; obtain ⟨v5, e6, rfl, h⟩ := h
  replace h := asI_inv h; obtain ⟨t42, rfl, h⟩ := h
  replace h := popS_inv h; obtain ⟨v7, e8, rfl, h⟩ := h
  replace h := asI_inv h; obtain ⟨t43, rfl, h⟩ := h
  replace h := popN_inv h; obtain ⟨rfl, h⟩ := h
  replace h := popN_inv h; obtain ⟨rfl, h⟩ := h
  exact ⟨k, (print_exprs_l13_eq2 k K k (l2, t41, t42, t43)).trans h⟩
theorem print_exprs_cok {ρ : Type} (k : Nat) : COK (print_exprs_cfg (ρ := ρ) k) (print_exprs_G k) print_exprs_code :=
  cok_of (tl := [(2, print_exprs_l2_s k), (7, print_exprs_l7_s k), (13, print_exprs_l13_s k)]) (tj := []) (tb := []) rfl rfl rfl (all_nth 3 (by kernel_rfl) ⟨iter_case (by kernel_rfl) rfl (print_exprs_l13_ok2 k), iter_case (by kernel_rfl) rfl (print_exprs_l7_ok1 k), iter_case (by kernel_rfl) rfl (print_exprs_l2_ok0 k), trivial⟩) (nil_all (by kernel_rfl)) (fun p hp => by cases hp)
noncomputable def print_exprs_enc (r : (List T25)) : AV UU := .own (.l25 r)
noncomputable def print_exprs_dec (v : AV UU) (_ : List (List (AV UU))) : Option (List T25) :=
asO_l25 v fun r =>
some r
theorem print_exprs_dec_enc (v : AV UU) (b : List (List (AV UU))) (r : (List T25)) (h : print_exprs_dec v b = some r) : v = print_exprs_enc r := by
  unfold print_exprs_dec at h
  replace h := asO_l25_inv h; obtain ⟨r, rfl, h⟩ := h
  cases h
  rfl
theorem print_exprs_eq (k : Nat) (s0 : S60) : bodyK UX (print_exprs_cfg k) (print_exprs_G k) Tryd.f51 [.pv (.typ (.s60 s0))] [] print_exprs_dec = print_exprs k s0 := by kernel_rfl
theorem print_exprs_con (k : Nat) (s0 : S60) (r : (List T25)) (h : print_exprs k s0 = some r) : Con (X := UX) Tryd.prog 51 [.pv (.typ (.s60 s0))] [] (print_exprs_enc r) [] :=
  con_of_body xok tok Tryd.func51 print_exprs_body (print_exprs_gok k) rfl (print_exprs_cok k) (of_decide_eq_true (by kernel_rfl)) print_exprs_dec_enc ((print_exprs_eq k s0).trans h)
noncomputable def print_exprs_an {ρ : Type} (k : Nat) : An UX ρ := fun args bx K =>
popA args fun v1 a2 =>
as_s60 v1 fun s0 =>
popN a2 <|
popN bx <|
(print_exprs k s0).bind fun r => K (print_exprs_enc r) []
theorem print_exprs_ok {ρ : Type} (k : Nat) : AnsOK Tryd.prog 51 (print_exprs_an (ρ := ρ) k) := by
  intro args bx K r h
  unfold print_exprs_an at h
  replace h := popA_inv h; obtain ⟨v1, a2, rfl, h⟩ := h
  replace h := as_s60_inv h; obtain ⟨s0, rfl, h⟩ := h
  replace h := popN_inv h; obtain ⟨rfl, h⟩ := h
  replace h := popN_inv h; obtain ⟨rfl, h⟩ := h
  replace h := bind_inv h
  obtain ⟨x, hx, h⟩ := h
  exact ⟨there_of Tryd.func51 (by kernel_rfl) print_exprs_body, _, _, h, print_exprs_con k s0 x hx⟩

/-! cadastre/print.May -/
noncomputable def print_May_code : Code := match Tryd.f36.body with | some c => c | none => .skip
theorem print_May_body : Tryd.f36.body = some print_May_code := by kernel_rfl
noncomputable def print_May_G {ρ : Type} (k : Nat) : Ans UX ρ := gk 49 (print_kinds_an k) (gk 50 (print_empty_an k) (gk 51 (print_exprs_an k) (gk 27 (print_count_an k) (gnil))))
theorem print_May_gok {ρ : Type} (k : Nat) : GOK Tryd.prog (print_May_G (ρ := ρ) k) := gok_cons (print_kinds_ok k) (gok_cons (print_empty_ok k) (gok_cons (print_exprs_ok k) (gok_cons (print_count_ok k) (gok_nil))))
noncomputable def print_May_l6_s {ρ : Type} (k : Nat) : Run UX ρ := fun s K =>
popS 5 s.env fun v1 e2 =>
asI .i64 v1 fun n5 =>
popS 22 e2 fun v3 e4 =>
asO_l25 v3 fun t22 =>
popS 23 e4 fun v5 e6 =>
asI .i64 v5 fun t23 =>
popS 24 e6 fun v7 e8 =>
asI .i64 v7 fun t24 =>
popN e8 <|
popN s.hp <|
print_May_l6 k (fun t2 => K .ret ⟨[(2, .pv (.bool t2))], []⟩) (K (.exit 0) ⟨[], []⟩) k n5 t22 t23 t24
noncomputable def print_May_j4_s {ρ : Type} (k : Nat) : Run UX ρ := fun s K =>
popS 1 s.env fun v1 e2 =>
asP 1 0 v1 <|
popN e2 <|
popB 1 s.hp fun c3 e4 =>
popA c3 fun v5 c6 =>
asI .i64 v5 fun z7 =>
popA c6 fun v8 c9 =>
asS v8 fun z10 =>
popA c9 fun v11 c12 =>
asS v11 fun z13 =>
popA c12 fun v14 c15 =>
asB v14 fun z16 =>
popA c15 fun v17 c18 =>
as_l113 v17 fun z19 =>
popA c18 fun v20 c21 =>
as_ls v20 fun z22 =>
popA c21 fun v23 c24 =>
as_ll25 v23 fun z25 =>
popA c24 fun v26 c27 =>
as_l90 v26 fun z28 =>
popA c27 fun v29 c30 =>
as_ls v29 fun z31 =>
popA c30 fun v32 c33 =>
asB v32 fun z34 =>
popA c33 fun v35 c36 =>
as_l25 v35 fun z37 =>
popA c36 fun v38 c39 =>
as_l25 v38 fun z40 =>
popA c39 fun v41 c42 =>
as_l106 v41 fun z43 =>
popN c42 <|
popN e4 <|
print_May_j4 k (fun t2 => K .ret ⟨[(2, .pv (.bool t2))], []⟩) (⟨z7, z10, z13, z16, z19, z22, z25, z28, z31, z34, z37, z40, z43⟩ : S60)
noncomputable def print_May_cfg {ρ : Type} (k : Nat) : Cfg UX ρ where
  live i := (assoc [(0, [0]), (1, [1]), (2, [1, 3, 4]), (3, []), (4, [1]), (5, [1, 5]), (6, [5, 22, 23, 24]), (7, [5, 22, 23, 24]), (8, [5, 7, 22, 23, 24]), (9, [5, 8, 22, 23, 24]), (10, [5, 8, 22, 23, 24]), (11, []), (12, [5, 22, 23, 24]), (13, [])] i).getD []
  boxes i := (assoc [(0, []), (1, [1]), (2, [1, 3]), (3, []), (4, [1]), (5, [1]), (6, []), (7, []), (8, [7]), (9, []), (10, []), (11, []), (12, []), (13, [])] i).getD []
  tk i := (assoc [] i).getD []
  n := 40
  labelR l := (assoc [] l).getD 0
  loops := assoc [(6, print_May_l6_s k)]
  labels := assoc []
  joins := assoc [(4, print_May_j4_s k)]
  xl i e := match e with
    | .nxt => assoc [] i
    | .ret => assoc [(6, ([2], [])), (4, ([2], []))] i
    | .exit j => (assoc [(6, [(0, ([], []))])] i).bind fun l => assoc l j
    | .goto j => (assoc [] i).bind fun l => assoc l j
noncomputable def print_May_L : List Code := selI [6] (loopsOf print_May_code)
noncomputable def print_May_J : List Code := selI [4] (joinsOf print_May_code)
noncomputable def print_May_S : List Code := scopesOf print_May_code
theorem print_May_l6_eq0 {ρ : Type} (k : Nat) (K : Ex → St UU → Option ρ) : ∀ (n : Nat) (v : Int × (List T25) × Int × Int), iterK UX (fun s => s.at (print_May_cfg (ρ := ρ) k).live (print_May_cfg (ρ := ρ) k).boxes (some 6)) (exec UX (print_May_cfg k) (print_May_G k) (print_May_L.getD 0 .skip)) n ⟨[(5, .pv (.int .i64 v.1)), (22, .own (.l25 v.2.1)), (23, .pv (.int .i64 v.2.2.1)), (24, .pv (.int .i64 v.2.2.2))], []⟩ (nrmK UX (print_May_cfg k) 6 K) = print_May_l6 k (fun t2 => K .ret ⟨[(2, .pv (.bool t2))], []⟩) (K (.exit 0) ⟨[], []⟩) n v.1 v.2.1 v.2.2.1 v.2.2.2 :=
  iter_rec (X := UX) (fun v => ⟨[(5, .pv (.int .i64 v.1)), (22, .own (.l25 v.2.1)), (23, .pv (.int .i64 v.2.2.1)), (24, .pv (.int .i64 v.2.2.2))], []⟩) (fun rec v => print_May_l6_b k (fun t2 => K .ret ⟨[(2, .pv (.bool t2))], []⟩) (K (.exit 0) ⟨[], []⟩) (fun n5 t22 t23 t24 => rec (n5, t22, t23, t24)) v.1 v.2.1 v.2.2.1 v.2.2.2) (fun n v => print_May_l6 k (fun t2 => K .ret ⟨[(2, .pv (.bool t2))], []⟩) (K (.exit 0) ⟨[], []⟩) n v.1 v.2.1 v.2.2.1 v.2.2.2) (fun n v => by kernel_rfl) (fun _ => rfl) (fun _ _ => rfl)
theorem print_May_l6_ok0 {ρ : Type} (k : Nat) : IterOK UX (print_May_cfg (ρ := ρ) k) (print_May_G k) (print_May_L.getD 0 .skip) 6 (print_May_l6_s k) := by
  intro s K r h
  obtain ⟨env, hp⟩ := s
  unfold print_May_l6_s at h
  replace h := popS_inv h; obtain ⟨v1, e2, rfl, h⟩ := h
  replace h := asI_inv h; obtain ⟨n5, rfl, h⟩ := h
  replace h := popS_inv h; obtain ⟨v3, e4, rfl, h⟩ := h
  replace h := asO_l25_inv h; obtain ⟨t22, rfl, h⟩ := h
  replace h := popS_inv h; obtain ⟨v5, e6, rfl, h⟩ := h
  replace h := asI_inv h; obtain ⟨t23, rfl, h⟩ := h
  replace h := popS_inv h; obtain ⟨v7, e8, rfl, h⟩ := h
  replace h := asI_inv h; obtain ⟨t24, rfl, h⟩ := h
  replace h := popN_inv h; obtain ⟨rfl, h⟩ := h
  replace h := popN_inv h; obtain ⟨rfl, h⟩ := h
  exact ⟨k, (print_May_l6_eq0 k K k (n5, t22, t23, t24)).trans h⟩
theorem print_May_j4_eq0 {ρ : Type} (k : Nat) (K : Ex → St UU → Option ρ) (s1 : S60) : exec UX (print_May_cfg k) (print_May_G k) (print_May_J.getD 0 .skip) ⟨[(1, .ptr 1 0)], [(1, [.pv (.int .i64 s1.f0), .pv (.str s1.f1), .pv (.str s1.f2), .pv (.bool s1.f3), .pv (.typ (.l113 s1.f4)), .pv (.typ (.ls s1.f5)), .pv (.typ (.ll25 s1.f6)), .pv (.typ (.l90 s1.f7)), .pv (.typ (.ls s1.f8)), .pv (.bool s1.f9), .pv (.typ (.l25 s1.f10)), .pv (.typ (.l25 s1.f11)), .pv (.typ (.l106 s1.f12))])]⟩ (nrmK UX (print_May_cfg k) 4 K) = print_May_j4 k (fun t2 => K .ret ⟨[(2, .pv (.bool t2))], []⟩) s1 := by kernel_rfl
theorem print_May_j4_ok0 {ρ : Type} (k : Nat) : JoinOK UX (print_May_cfg (ρ := ρ) k) (print_May_G k) (print_May_J.getD 0 .skip) 4 (print_May_j4_s k) := by
  intro s K r h
  obtain ⟨env, hp⟩ := s
  unfold print_May_j4_s at h
  replace h := popS_inv h; obtain ⟨v1, e2, rfl, h⟩ := h
  replace h := asP_inv h; obtain ⟨rfl, h⟩ := h
  replace h := popN_inv h; obtain ⟨rfl, h⟩ := h
  replace h := popB_inv h; obtain ⟨c3, e4, rfl, h⟩ := h
  replace h := popA_inv h; obtain ⟨v5, c6, rfl, h⟩ := h
  replace h := asI_inv h; obtain ⟨z7, rfl, h⟩ := h
  replace h := popA_inv h; obtain ⟨v8, c9, rfl, h⟩ := h
  replace h := asS_inv h; obtain ⟨z10, rfl, h⟩ := h
  replace h := popA_inv h; obtain ⟨v11, c12, rfl, h⟩ := h
  replace h := asS_inv h; obtain ⟨z13, rfl, h⟩ := h
  replace h := popA_inv h; obtain ⟨v14, c15, rfl, h⟩ := h
  replace h := asB_inv h; obtain ⟨z16, rfl, h⟩ := h
  replace h := popA_inv h; obtain ⟨v17, c18, rfl, h⟩ := h
  replace h := as_l113_inv h; obtain ⟨z19, rfl, h⟩ := h
  replace h := popA_inv h; obtain ⟨v20, c21, rfl, h⟩ := h
  replace h := as_ls_inv h; obtain ⟨z22, rfl, h⟩ := h
  replace h := popA_inv h; obtain ⟨v23, c24, rfl, h⟩ := h
  replace h := as_ll25_inv h; obtain ⟨z25, rfl, h⟩ := h
  replace h := popA_inv h; obtain ⟨v26, c27, rfl, h⟩ := h
  replace h := as_l90_inv h; obtain ⟨z28, rfl, h⟩ := h
  replace h := popA_inv h; obtain ⟨v29, c30, rfl, h⟩ := h
  replace h := as_ls_inv h; obtain ⟨z31, rfl, h⟩ := h
  replace h := popA_inv h; obtain ⟨v32, c33, rfl, h⟩ := h
  replace h := asB_inv h; obtain ⟨z34, rfl, h⟩ := h
  replace h := popA_inv h; obtain ⟨v35, c36, rfl, h⟩ := h
  replace h := as_l25_inv h; obtain ⟨z37, rfl, h⟩ := h
  replace h := popA_inv h; obtain ⟨v38, c39, rfl, h⟩ := h
  replace h := as_l25_inv h; obtain ⟨z40, rfl, h⟩ := h
  replace h := popA_inv h; obtain ⟨v41, c42, rfl, h⟩ := h
  replace h := as_l106_inv h; obtain ⟨z43, rfl, h⟩ := h
  replace h := popN_inv h; obtain ⟨rfl, h⟩ := h
  replace h := popN_inv h; obtain ⟨rfl, h⟩ := h
  exact (print_May_j4_eq0 k K (⟨z7, z10, z13, z16, z19, z22, z25, z28, z31, z34, z37, z40, z43⟩ : S60)).trans h
theorem print_May_cok {ρ : Type} (k : Nat) : COK (print_May_cfg (ρ := ρ) k) (print_May_G k) print_May_code :=
  cok_of (tl := [(6, print_May_l6_s k)]) (tj := [(4, print_May_j4_s k)]) (tb := []) rfl rfl rfl (all_nth 1 (by kernel_rfl) ⟨iter_case (by kernel_rfl) rfl (print_May_l6_ok0 k), trivial⟩) (all_nth 1 (by kernel_rfl) ⟨join_case (by kernel_rfl) rfl (print_May_j4_ok0 k), trivial⟩) (fun p hp => by cases hp)
noncomputable def print_May_enc (r : Bool) : AV UU := .pv (.bool r)
noncomputable def print_May_dec (v : AV UU) (_ : List (List (AV UU))) : Option Bool :=
asB v fun r0 =>
some r0
theorem print_May_dec_enc (v : AV UU) (b : List (List (AV UU))) (r : Bool) (h : print_May_dec v b = some r) : v = print_May_enc r := by
  unfold print_May_dec at h
  replace h := asB_inv h; obtain ⟨r0, rfl, h⟩ := h
  cases h
  rfl
theorem print_May_eq (k : Nat) (s0 : S60) : bodyK UX (print_May_cfg k) (print_May_G k) Tryd.f36 [.pv (.typ (.s60 s0))] [] print_May_dec = print_May k s0 := by kernel_rfl
theorem print_May_con (k : Nat) (s0 : S60) (r : Bool) (h : print_May k s0 = some r) : Con (X := UX) Tryd.prog 36 [.pv (.typ (.s60 s0))] [] (print_May_enc r) [] :=
  con_of_body xok tok Tryd.func36 print_May_body (print_May_gok k) rfl (print_May_cok k) (of_decide_eq_true (by kernel_rfl)) print_May_dec_enc ((print_May_eq k s0).trans h)
noncomputable def print_May_an {ρ : Type} (k : Nat) : An UX ρ := fun args bx K =>
popA args fun v1 a2 =>
as_s60 v1 fun s0 =>
popN a2 <|
popN bx <|
(print_May k s0).bind fun r => K (print_May_enc r) []
theorem print_May_ok {ρ : Type} (k : Nat) : AnsOK Tryd.prog 36 (print_May_an (ρ := ρ) k) := by
  intro args bx K r h
  unfold print_May_an at h
  replace h := popA_inv h; obtain ⟨v1, a2, rfl, h⟩ := h
  replace h := as_s60_inv h; obtain ⟨s0, rfl, h⟩ := h
  replace h := popN_inv h; obtain ⟨rfl, h⟩ := h
  replace h := popN_inv h; obtain ⟨rfl, h⟩ := h
  replace h := bind_inv h
  obtain ⟨x, hx, h⟩ := h
  exact ⟨there_of Tryd.func36 (by kernel_rfl) print_May_body, _, _, h, print_May_con k s0 x hx⟩

/-! cadastre/print.list[[]cadastre/api.Expr] -/
noncomputable def api_Expr__p0_u2_code : Code := match Tryd.f52.body with | some c => c | none => .skip
theorem api_Expr__p0_u2_body : Tryd.f52.body = some api_Expr__p0_u2_code := by kernel_rfl
noncomputable def api_Expr__p0_u2_G {ρ : Type} (k : Nat) : Ans UX ρ := gk 29 (print_writer_put_p0_an k) (gnil)
theorem api_Expr__p0_u2_gok {ρ : Type} (k : Nat) : GOK Tryd.prog (api_Expr__p0_u2_G (ρ := ρ) k) := gok_cons (print_writer_put_p0_ok k) (gok_nil)
noncomputable def api_Expr__p0_u2_l1_s {ρ : Type} (k : Nat) : Run UX ρ := fun s K =>
popS 0 s.env fun v1 e2 =>
asP 1000 0 v1 <|
popS 8 e2 fun v3 e4 =>
as_ll25 v3 fun t8 =>
popS 9 e4 fun v5 e6 =>
asI .i64 v5 fun t9 =>
popS 10 e6 fun v7 e8 =>
asI .i64 v7 fun t10 =>
popN e8 <|
popB 1000 s.hp fun c9 e10 =>
popA c9 fun v11 c12 =>
asO_li_u8 v11 fun t1000_0 =>
popA c12 fun v13 c14 =>
asB v13 fun z15 =>
popN c14 <|
popN e10 <|
api_Expr__p0_u2_l1 k (fun t1000_0 t1000_1 => K (.exit 0) ⟨[], [(1000, [.own (.li_u8 t1000_0), .pv (.bool t1000_1)])]⟩) k t8 t9 t10 t1000_0 z15
noncomputable def api_Expr__p0_u2_cfg {ρ : Type} (k : Nat) : Cfg UX ρ where
  live i := (assoc [(0, [0, 1, 2]), (1, [0, 8, 9, 10]), (2, [0, 2, 8, 9, 10]), (3, [0, 2, 6, 7, 8, 9, 10]), (4, [0, 2, 7, 8, 9, 10]), (5, [0, 2, 7, 8, 9, 10]), (6, [0, 2, 8, 9, 10])] i).getD []
  boxes i := (assoc [(0, []), (1, []), (2, []), (3, []), (4, []), (5, [])] i).getD []
  tk i := (assoc [] i).getD []
  n := 24
  labelR l := (assoc [] l).getD 0
  loops := assoc [(1, api_Expr__p0_u2_l1_s k)]
  labels := assoc []
  joins := assoc []
  xl i e := match e with
    | .nxt => assoc [] i
    | .ret => assoc [] i
    | .exit j => (assoc [(1, [(0, ([], []))])] i).bind fun l => assoc l j
    | .goto j => (assoc [] i).bind fun l => assoc l j
noncomputable def api_Expr__p0_u2_L : List Code := selI [1] (loopsOf api_Expr__p0_u2_code)
noncomputable def api_Expr__p0_u2_J : List Code := selI [] (joinsOf api_Expr__p0_u2_code)
noncomputable def api_Expr__p0_u2_S : List Code := scopesOf api_Expr__p0_u2_code
theorem api_Expr__p0_u2_l1_eq0 {ρ : Type} (k : Nat) (K : Ex → St UU → Option ρ) : ∀ (n : Nat) (v : (List (List T25)) × Int × Int × (List Int) × Bool), iterK UX (fun s => s.at (api_Expr__p0_u2_cfg (ρ := ρ) k).live (api_Expr__p0_u2_cfg (ρ := ρ) k).boxes (some 1)) (exec UX (api_Expr__p0_u2_cfg k) (api_Expr__p0_u2_G k) (api_Expr__p0_u2_L.getD 0 .skip)) n ⟨[(0, .ptr 1000 0), (8, .pv (.typ (.ll25 v.1))), (9, .pv (.int .i64 v.2.1)), (10, .pv (.int .i64 v.2.2.1))], [(1000, [.own (.li_u8 v.2.2.2.1), .pv (.bool v.2.2.2.2)])]⟩ (nrmK UX (api_Expr__p0_u2_cfg k) 1 K) = api_Expr__p0_u2_l1 k (fun t1000_0 t1000_1 => K (.exit 0) ⟨[], [(1000, [.own (.li_u8 t1000_0), .pv (.bool t1000_1)])]⟩) n v.1 v.2.1 v.2.2.1 v.2.2.2.1 v.2.2.2.2 :=
  iter_rec (X := UX) (fun v => ⟨[(0, .ptr 1000 0), (8, .pv (.typ (.ll25 v.1))), (9, .pv (.int .i64 v.2.1)), (10, .pv (.int .i64 v.2.2.1))], [(1000, [.own (.li_u8 v.2.2.2.1), .pv (.bool v.2.2.2.2)])]⟩) (fun rec v => api_Expr__p0_u2_l1_b k (fun t1000_0 t1000_1 => K (.exit 0) ⟨[], [(1000, [.own (.li_u8 t1000_0), .pv (.bool t1000_1)])]⟩) (fun t8 t9 t10 t1000_0 t1000_1 => rec (t8, t9, t10, t1000_0, t1000_1)) v.1 v.2.1 v.2.2.1 v.2.2.2.1 v.2.2.2.2) (fun n v => api_Expr__p0_u2_l1 k (fun t1000_0 t1000_1 => K (.exit 0) ⟨[], [(1000, [.own (.li_u8 t1000_0), .pv (.bool t1000_1)])]⟩) n v.1 v.2.1 v.2.2.1 v.2.2.2.1 v.2.2.2.2) (fun n v => by kernel_rfl) (fun _ => rfl) (fun _ _ => rfl)
theorem api_Expr__p0_u2_l1_ok0 {ρ : Type} (k : Nat) : IterOK UX (api_Expr__p0_u2_cfg (ρ := ρ) k) (api_Expr__p0_u2_G k) (api_Expr__p0_u2_L.getD 0 .skip) 1 (api_Expr__p0_u2_l1_s k) := by
  intro s K r h
  obtain ⟨env, hp⟩ := s
  unfold api_Expr__p0_u2_l1_s at h
  replace h := popS_inv h; obtain ⟨v1, e2, rfl, h⟩ := h
  replace h := asP_inv h; obtain ⟨rfl, h⟩ := h
  replace h := popS_inv h; obtain ⟨v3, e4, rfl, h⟩ := h
  replace h := as_ll25_inv h; obtain ⟨t8, rfl, h⟩ := h
  replace h := popS_inv h; obtain ⟨v5, e6, rfl, h⟩ := h
  replace h := asI_inv h; obtain ⟨t9, rfl, h⟩ := h
  replace h := popS_inv h; obtain ⟨v7, e8, rfl, h⟩ := h
  replace h := asI_inv h; obtain ⟨t10, rfl, h⟩ := h
  replace h := popN_inv h; obtain ⟨rfl, h⟩ := h
  replace h := popB_inv h; obtain ⟨c9, e10, rfl, h⟩ := h
  replace h := popA_inv h; obtain ⟨v11, c12, rfl, h⟩ := h
  replace h := asO_li_u8_inv h; obtain ⟨t1000_0, rfl, h⟩ := h
  replace h := popA_inv h; obtain ⟨v13, c14, rfl, h⟩ := h
  replace h := asB_inv h; obtain ⟨z15, rfl, h⟩ := h
  replace h := popN_inv h; obtain ⟨rfl, h⟩ := h
  replace h := popN_inv h; obtain ⟨rfl, h⟩ := h
  exact ⟨k, (api_Expr__p0_u2_l1_eq0 k K k (t8, t9, t10, t1000_0, z15)).trans h⟩
theorem api_Expr__p0_u2_cok {ρ : Type} (k : Nat) : COK (api_Expr__p0_u2_cfg (ρ := ρ) k) (api_Expr__p0_u2_G k) api_Expr__p0_u2_code :=
  cok_of (tl := [(1, api_Expr__p0_u2_l1_s k)]) (tj := []) (tb := []) rfl rfl rfl (all_nth 1 (by kernel_rfl) ⟨iter_case (by kernel_rfl) rfl (api_Expr__p0_u2_l1_ok0 k), trivial⟩) (nil_all (by kernel_rfl)) (fun p hp => by cases hp)
noncomputable def api_Expr__p0_u2_enc (r : (Unit) × S51) : AV UU := .pv (.tup [])
noncomputable def api_Expr__p0_u2_bx (r : (Unit) × S51) : List (List (AV UU)) := [[.own (.li_u8 r.2.f0), .pv (.bool r.2.f1)]]
noncomputable def api_Expr__p0_u2_dec (v : AV UU) (b : List (List (AV UU))) : Option ((Unit) × S51) :=
asT v fun q1 =>
popN q1 <|
popA b fun c2 b3 =>
popA c2 fun v4 c5 =>
asO_li_u8 v4 fun z6 =>
popA c5 fun v7 c8 =>
asB v7 fun z9 =>
popN c8 <|
popN b3 <|
some ((), (⟨z6, z9⟩ : S51))
theorem api_Expr__p0_u2_dec_enc (v : AV UU) (b : List (List (AV UU))) (r : (Unit) × S51) (_ : b.length = 1) (h : api_Expr__p0_u2_dec v b = some r) : v = api_Expr__p0_u2_enc r ∧ b = api_Expr__p0_u2_bx r := by
  unfold api_Expr__p0_u2_dec at h
  replace h := asT_inv h; obtain ⟨q1, rfl, h⟩ := h
  replace h := popN_inv h; obtain ⟨rfl, h⟩ := h
  replace h := popA_inv h; obtain ⟨c2, b3, rfl, h⟩ := h
  replace h := popA_inv h; obtain ⟨v4, c5, rfl, h⟩ := h
  replace h := asO_li_u8_inv h; obtain ⟨z6, rfl, h⟩ := h
  replace h := popA_inv h; obtain ⟨v7, c8, rfl, h⟩ := h
  replace h := asB_inv h; obtain ⟨z9, rfl, h⟩ := h
  replace h := popN_inv h; obtain ⟨rfl, h⟩ := h
  replace h := popN_inv h; obtain ⟨rfl, h⟩ := h
  cases h
  exact ⟨rfl, rfl⟩
theorem api_Expr__p0_u2_eq (k : Nat) (l1 : List (List T25)) (bx0 : S51) : bodyK UX (api_Expr__p0_u2_cfg k) (api_Expr__p0_u2_G k) Tryd.f52 [.ptr 1000 0, .pv (.typ (.ll25 l1)), .undef] [[.own (.li_u8 bx0.f0), .pv (.bool bx0.f1)]] api_Expr__p0_u2_dec = api_Expr__p0_u2 k l1 bx0 := by kernel_rfl
theorem api_Expr__p0_u2_con (k : Nat) (l1 : List (List T25)) (bx0 : S51) (r : (Unit) × S51) (h : api_Expr__p0_u2 k l1 bx0 = some r) : Con (X := UX) Tryd.prog 52 [.ptr 1000 0, .pv (.typ (.ll25 l1)), .undef] [[.own (.li_u8 bx0.f0), .pv (.bool bx0.f1)]] (api_Expr__p0_u2_enc r) (api_Expr__p0_u2_bx r) :=
  con_of_bodyB (args := [.ptr 1000 0, .pv (.typ (.ll25 l1)), .undef]) (bx := [[.own (.li_u8 bx0.f0), .pv (.bool bx0.f1)]]) xok tok Tryd.func52 api_Expr__p0_u2_body (api_Expr__p0_u2_gok k) rfl (api_Expr__p0_u2_cok k) (of_decide_eq_true (by kernel_rfl)) (.inr (of_decide_eq_true (by kernel_rfl))) (fun v b r hl => api_Expr__p0_u2_dec_enc v b r hl) ((api_Expr__p0_u2_eq k l1 bx0).trans h)
noncomputable def api_Expr__p0_u2_an {ρ : Type} (k : Nat) : An UX ρ := fun args bx K =>
popA args fun v1 a2 =>
asP 1000 0 v1 <|
popA a2 fun v3 a4 =>
as_ll25 v3 fun l1 =>
popA a4 fun v5 a6 =>
asUn v5 <|
popN a6 <|
popA bx fun c7 b8 =>
popA c7 fun v9 c10 =>
asO_li_u8 v9 fun z11 =>
popA c10 fun v12 c13 =>
asB v12 fun z14 =>
popN c13 <|
popN b8 <|
(api_Expr__p0_u2 k l1 (⟨z11, z14⟩ : S51)).bind fun r => K (api_Expr__p0_u2_enc r) (api_Expr__p0_u2_bx r)
theorem api_Expr__p0_u2_ok {ρ : Type} (k : Nat) : AnsOK Tryd.prog 52 (api_Expr__p0_u2_an (ρ := ρ) k) := by
  intro args bx K r h
  unfold api_Expr__p0_u2_an at h
  replace h := popA_inv h; obtain ⟨v1, a2, rfl, h⟩ := h
  replace h := asP_inv h; obtain ⟨rfl, h⟩ := h
  replace h := popA_inv h; obtain ⟨v3, a4, rfl, h⟩ := h
  replace h := as_ll25_inv h; obtain ⟨l1, rfl, h⟩ := h
  replace h := popA_inv h; obtain ⟨v5, a6, rfl, h⟩ := h
  replace h := asUn_inv h; obtain ⟨rfl, h⟩ := h
  replace h := popN_inv h; obtain ⟨rfl, h⟩ := h
  replace h := popA_inv h; obtain ⟨c7, b8, rfl, h⟩ := h
  replace h := popA_inv h; obtain ⟨v9, c10, rfl, h⟩ := h
  replace h := asO_li_u8_inv h; obtain ⟨z11, rfl, h⟩ := h
  replace h := popA_inv h; obtain ⟨v12, c13, rfl, h⟩ := h
  replace h := asB_inv h; obtain ⟨z14, rfl, h⟩ := h
  replace h := popN_inv h; obtain ⟨rfl, h⟩ := h
  replace h := popN_inv h; obtain ⟨rfl, h⟩ := h
  replace h := bind_inv h
  obtain ⟨x, hx, h⟩ := h
  exact ⟨there_of Tryd.func52 (by kernel_rfl) api_Expr__p0_u2_body, _, _, h, api_Expr__p0_u2_con k l1 (⟨z11, z14⟩ : S51) x hx⟩

/-! (*cadastre/print.writer).where -/
noncomputable def print_writer_where_p0_code : Code := match Tryd.f56.body with | some c => c | none => .skip
theorem print_writer_where_p0_body : Tryd.f56.body = some print_writer_where_p0_code := by kernel_rfl
noncomputable def print_writer_where_p0_G {ρ : Type} (k : Nat) : Ans UX ρ := gk 29 (print_writer_put_p0_an k) (gk 19 (print_writer_expr_p0_an k) (gnil))
theorem print_writer_where_p0_gok {ρ : Type} (k : Nat) : GOK Tryd.prog (print_writer_where_p0_G (ρ := ρ) k) := gok_cons (print_writer_put_p0_ok k) (gok_cons (print_writer_expr_p0_ok k) (gok_nil))
noncomputable def print_writer_where_p0_l1_s {ρ : Type} (k : Nat) : Run UX ρ := fun s K =>
popS 0 s.env fun v1 e2 =>
asP 1000 0 v1 <|
popS 6 e2 fun v3 e4 =>
as_l25 v3 fun t6 =>
popS 7 e4 fun v5 e6 =>
asI .i64 v5 fun t7 =>
popS 8 e6 fun v7 e8 =>
asI .i64 v7 fun t8 =>
popN e8 <|
popB 1000 s.hp fun c9 e10 =>
popA c9 fun v11 c12 =>
asO_li_u8 v11 fun t1000_0 =>
popA c12 fun v13 c14 =>
asB v13 fun z15 =>
popN c14 <|
popN e10 <|
print_writer_where_p0_l1 k (fun t1000_0 t1000_1 => K (.exit 0) ⟨[], [(1000, [.own (.li_u8 t1000_0), .pv (.bool t1000_1)])]⟩) k t6 t7 t8 t1000_0 z15
noncomputable def print_writer_where_p0_cfg {ρ : Type} (k : Nat) : Cfg UX ρ where
  live i := (assoc [(0, [0, 1]), (1, [0, 6, 7, 8]), (2, [0, 6, 7, 8]), (3, [0, 5, 6, 7, 8]), (4, [0, 5, 6, 7, 8]), (5, [0, 6, 7, 8])] i).getD []
  boxes i := (assoc [(0, []), (1, []), (2, []), (3, [5]), (4, [5]), (5, [])] i).getD []
  tk i := (assoc [] i).getD []
  n := 19
  labelR l := (assoc [] l).getD 0
  loops := assoc [(1, print_writer_where_p0_l1_s k)]
  labels := assoc []
  joins := assoc []
  xl i e := match e with
    | .nxt => assoc [] i
    | .ret => assoc [] i
    | .exit j => (assoc [(1, [(0, ([], []))])] i).bind fun l => assoc l j
    | .goto j => (assoc [] i).bind fun l => assoc l j
noncomputable def print_writer_where_p0_L : List Code := selI [1] (loopsOf print_writer_where_p0_code)
noncomputable def print_writer_where_p0_J : List Code := selI [] (joinsOf print_writer_where_p0_code)
noncomputable def print_writer_where_p0_S : List Code := scopesOf print_writer_where_p0_code
theorem print_writer_where_p0_l1_eq0 {ρ : Type} (k : Nat) (K : Ex → St UU → Option ρ) : ∀ (n : Nat) (v : (List T25) × Int × Int × (List Int) × Bool), iterK UX (fun s => s.at (print_writer_where_p0_cfg (ρ := ρ) k).live (print_writer_where_p0_cfg (ρ := ρ) k).boxes (some 1)) (exec UX (print_writer_where_p0_cfg k) (print_writer_where_p0_G k) (print_writer_where_p0_L.getD 0 .skip)) n ⟨[(0, .ptr 1000 0), (6, .pv (.typ (.l25 v.1))), (7, .pv (.int .i64 v.2.1)), (8, .pv (.int .i64 v.2.2.1))], [(1000, [.own (.li_u8 v.2.2.2.1), .pv (.bool v.2.2.2.2)])]⟩ (nrmK UX (print_writer_where_p0_cfg k) 1 K) = print_writer_where_p0_l1 k (fun t1000_0 t1000_1 => K (.exit 0) ⟨[], [(1000, [.own (.li_u8 t1000_0), .pv (.bool t1000_1)])]⟩) n v.1 v.2.1 v.2.2.1 v.2.2.2.1 v.2.2.2.2 :=
  iter_rec (X := UX) (fun v => ⟨[(0, .ptr 1000 0), (6, .pv (.typ (.l25 v.1))), (7, .pv (.int .i64 v.2.1)), (8, .pv (.int .i64 v.2.2.1))], [(1000, [.own (.li_u8 v.2.2.2.1), .pv (.bool v.2.2.2.2)])]⟩) (fun rec v => print_writer_where_p0_l1_b k (fun t1000_0 t1000_1 => K (.exit 0) ⟨[], [(1000, [.own (.li_u8 t1000_0), .pv (.bool t1000_1)])]⟩) (fun t6 t7 t8 t1000_0 t1000_1 => rec (t6, t7, t8, t1000_0, t1000_1)) v.1 v.2.1 v.2.2.1 v.2.2.2.1 v.2.2.2.2) (fun n v => print_writer_where_p0_l1 k (fun t1000_0 t1000_1 => K (.exit 0) ⟨[], [(1000, [.own (.li_u8 t1000_0), .pv (.bool t1000_1)])]⟩) n v.1 v.2.1 v.2.2.1 v.2.2.2.1 v.2.2.2.2) (fun n v => by kernel_rfl) (fun _ => rfl) (fun _ _ => rfl)
theorem print_writer_where_p0_l1_ok0 {ρ : Type} (k : Nat) : IterOK UX (print_writer_where_p0_cfg (ρ := ρ) k) (print_writer_where_p0_G k) (print_writer_where_p0_L.getD 0 .skip) 1 (print_writer_where_p0_l1_s k) := by
  intro s K r h
  obtain ⟨env, hp⟩ := s
  unfold print_writer_where_p0_l1_s at h
  replace h := popS_inv h; obtain ⟨v1, e2, rfl, h⟩ := h
  replace h := asP_inv h; obtain ⟨rfl, h⟩ := h
  replace h := popS_inv h; obtain ⟨v3, e4, rfl, h⟩ := h
  replace h := as_l25_inv h; obtain ⟨t6, rfl, h⟩ := h
  replace h := popS_inv h; obtain ⟨v5, e6, rfl, h⟩ := h
  replace h := asI_inv h; obtain ⟨t7, rfl, h⟩ := h
  replace h := popS_inv h; obtain ⟨v7, e8, rfl, h⟩ := h
  replace h := asI_inv h; obtain ⟨t8, rfl, h⟩ := h
  replace h := popN_inv h; obtain ⟨rfl, h⟩ := h
  replace h := popB_inv h; obtain ⟨c9, e10, rfl, h⟩ := h
  replace h := popA_inv h; obtain ⟨v11, c12, rfl, h⟩ := h
  replace h := asO_li_u8_inv h; obtain ⟨t1000_0, rfl, h⟩ := h
  replace h := popA_inv h; obtain ⟨v13, c14, rfl, h⟩ := h
  replace h := asB_inv h; obtain ⟨z15, rfl, h⟩ := h
  replace h := popN_inv h; obtain ⟨rfl, h⟩ := h
  replace h := popN_inv h; obtain ⟨rfl, h⟩ := h
  exact ⟨k, (print_writer_where_p0_l1_eq0 k K k (t6, t7, t8, t1000_0, z15)).trans h⟩
theorem print_writer_where_p0_cok {ρ : Type} (k : Nat) : COK (print_writer_where_p0_cfg (ρ := ρ) k) (print_writer_where_p0_G k) print_writer_where_p0_code :=
  cok_of (tl := [(1, print_writer_where_p0_l1_s k)]) (tj := []) (tb := []) rfl rfl rfl (all_nth 1 (by kernel_rfl) ⟨iter_case (by kernel_rfl) rfl (print_writer_where_p0_l1_ok0 k), trivial⟩) (nil_all (by kernel_rfl)) (fun p hp => by cases hp)
noncomputable def print_writer_where_p0_enc (r : (Unit) × S51) : AV UU := .pv (.tup [])
noncomputable def print_writer_where_p0_bx (r : (Unit) × S51) : List (List (AV UU)) := [[.own (.li_u8 r.2.f0), .pv (.bool r.2.f1)]]
noncomputable def print_writer_where_p0_dec (v : AV UU) (b : List (List (AV UU))) : Option ((Unit) × S51) :=
asT v fun q1 =>
popN q1 <|
popA b fun c2 b3 =>
popA c2 fun v4 c5 =>
asO_li_u8 v4 fun z6 =>
popA c5 fun v7 c8 =>
asB v7 fun z9 =>
popN c8 <|
popN b3 <|
some ((), (⟨z6, z9⟩ : S51))
theorem print_writer_where_p0_dec_enc (v : AV UU) (b : List (List (AV UU))) (r : (Unit) × S51) (_ : b.length = 1) (h : print_writer_where_p0_dec v b = some r) : v = print_writer_where_p0_enc r ∧ b = print_writer_where_p0_bx r := by
  unfold print_writer_where_p0_dec at h
  replace h := asT_inv h; obtain ⟨q1, rfl, h⟩ := h
  replace h := popN_inv h; obtain ⟨rfl, h⟩ := h
  replace h := popA_inv h; obtain ⟨c2, b3, rfl, h⟩ := h
  replace h := popA_inv h; obtain ⟨v4, c5, rfl, h⟩ := h
  replace h := asO_li_u8_inv h; obtain ⟨z6, rfl, h⟩ := h
  replace h := popA_inv h; obtain ⟨v7, c8, rfl, h⟩ := h
  replace h := asB_inv h; obtain ⟨z9, rfl, h⟩ := h
  replace h := popN_inv h; obtain ⟨rfl, h⟩ := h
  replace h := popN_inv h; obtain ⟨rfl, h⟩ := h
  cases h
  exact ⟨rfl, rfl⟩
theorem print_writer_where_p0_eq (k : Nat) (l1 : List T25) (bx0 : S51) : bodyK UX (print_writer_where_p0_cfg k) (print_writer_where_p0_G k) Tryd.f56 [.ptr 1000 0, .pv (.typ (.l25 l1))] [[.own (.li_u8 bx0.f0), .pv (.bool bx0.f1)]] print_writer_where_p0_dec = print_writer_where_p0 k l1 bx0 := by kernel_rfl
theorem print_writer_where_p0_con (k : Nat) (l1 : List T25) (bx0 : S51) (r : (Unit) × S51) (h : print_writer_where_p0 k l1 bx0 = some r) : Con (X := UX) Tryd.prog 56 [.ptr 1000 0, .pv (.typ (.l25 l1))] [[.own (.li_u8 bx0.f0), .pv (.bool bx0.f1)]] (print_writer_where_p0_enc r) (print_writer_where_p0_bx r) :=
  con_of_bodyB (args := [.ptr 1000 0, .pv (.typ (.l25 l1))]) (bx := [[.own (.li_u8 bx0.f0), .pv (.bool bx0.f1)]]) xok tok Tryd.func56 print_writer_where_p0_body (print_writer_where_p0_gok k) rfl (print_writer_where_p0_cok k) (of_decide_eq_true (by kernel_rfl)) (.inr (of_decide_eq_true (by kernel_rfl))) (fun v b r hl => print_writer_where_p0_dec_enc v b r hl) ((print_writer_where_p0_eq k l1 bx0).trans h)
noncomputable def print_writer_where_p0_an {ρ : Type} (k : Nat) : An UX ρ := fun args bx K =>
popA args fun v1 a2 =>
asP 1000 0 v1 <|
popA a2 fun v3 a4 =>
as_l25 v3 fun l1 =>
popN a4 <|
popA bx fun c5 b6 =>
popA c5 fun v7 c8 =>
asO_li_u8 v7 fun z9 =>
popA c8 fun v10 c11 =>
asB v10 fun z12 =>
popN c11 <|
popN b6 <|
(print_writer_where_p0 k l1 (⟨z9, z12⟩ : S51)).bind fun r => K (print_writer_where_p0_enc r) (print_writer_where_p0_bx r)
theorem print_writer_where_p0_ok {ρ : Type} (k : Nat) : AnsOK Tryd.prog 56 (print_writer_where_p0_an (ρ := ρ) k) := by
  intro args bx K r h
  unfold print_writer_where_p0_an at h
  replace h := popA_inv h; obtain ⟨v1, a2, rfl, h⟩ := h
  replace h := asP_inv h; obtain ⟨rfl, h⟩ := h
  replace h := popA_inv h; obtain ⟨v3, a4, rfl, h⟩ := h
  replace h := as_l25_inv h; obtain ⟨l1, rfl, h⟩ := h
  replace h := popN_inv h; obtain ⟨rfl, h⟩ := h
  replace h := popA_inv h; obtain ⟨c5, b6, rfl, h⟩ := h
  replace h := popA_inv h; obtain ⟨v7, c8, rfl, h⟩ := h
  replace h := asO_li_u8_inv h; obtain ⟨z9, rfl, h⟩ := h
  replace h := popA_inv h; obtain ⟨v10, c11, rfl, h⟩ := h
  replace h := asB_inv h; obtain ⟨z12, rfl, h⟩ := h
  replace h := popN_inv h; obtain ⟨rfl, h⟩ := h
  replace h := popN_inv h; obtain ⟨rfl, h⟩ := h
  replace h := bind_inv h
  obtain ⟨x, hx, h⟩ := h
  exact ⟨there_of Tryd.func56 (by kernel_rfl) print_writer_where_p0_body, _, _, h, print_writer_where_p0_con k l1 (⟨z9, z12⟩ : S51) x hx⟩

/-! cadastre/print.list[cadastre/api.Set] -/
noncomputable def api_Set__p0_u2_code : Code := match Tryd.f57.body with | some c => c | none => .skip
theorem api_Set__p0_u2_body : Tryd.f57.body = some api_Set__p0_u2_code := by kernel_rfl
noncomputable def api_Set__p0_u2_G {ρ : Type} (k : Nat) : Ans UX ρ := gk 29 (print_writer_put_p0_an k) (gnil)
theorem api_Set__p0_u2_gok {ρ : Type} (k : Nat) : GOK Tryd.prog (api_Set__p0_u2_G (ρ := ρ) k) := gok_cons (print_writer_put_p0_ok k) (gok_nil)
noncomputable def api_Set__p0_u2_l1_s {ρ : Type} (k : Nat) : Run UX ρ := fun s K =>
popS 0 s.env fun v1 e2 =>
asP 1000 0 v1 <|
popS 8 e2 fun v3 e4 =>
as_l90 v3 fun t8 =>
popS 9 e4 fun v5 e6 =>
asI .i64 v5 fun t9 =>
popS 10 e6 fun v7 e8 =>
asI .i64 v7 fun t10 =>
popN e8 <|
popB 1000 s.hp fun c9 e10 =>
popA c9 fun v11 c12 =>
asO_li_u8 v11 fun t1000_0 =>
popA c12 fun v13 c14 =>
asB v13 fun z15 =>
popN c14 <|
popN e10 <|
api_Set__p0_u2_l1 k (fun t1000_0 t1000_1 => K (.exit 0) ⟨[], [(1000, [.own (.li_u8 t1000_0), .pv (.bool t1000_1)])]⟩) k t8 t9 t10 t1000_0 z15
noncomputable def api_Set__p0_u2_cfg {ρ : Type} (k : Nat) : Cfg UX ρ where
  live i := (assoc [(0, [0, 1, 2]), (1, [0, 8, 9, 10]), (2, [0, 2, 8, 9, 10]), (3, [0, 2, 6, 7, 8, 9, 10]), (4, [0, 2, 7, 8, 9, 10]), (5, [0, 2, 7, 8, 9, 10]), (6, [0, 2, 8, 9, 10])] i).getD []
  boxes i := (assoc [(0, []), (1, []), (2, []), (3, [7]), (4, [7]), (5, [7])] i).getD []
  tk i := (assoc [] i).getD []
  n := 24
  labelR l := (assoc [] l).getD 0
  loops := assoc [(1, api_Set__p0_u2_l1_s k)]
  labels := assoc []
  joins := assoc []
  xl i e := match e with
    | .nxt => assoc [] i
    | .ret => assoc [] i
    | .exit j => (assoc [(1, [(0, ([], []))])] i).bind fun l => assoc l j
    | .goto j => (assoc [] i).bind fun l => assoc l j
noncomputable def api_Set__p0_u2_L : List Code := selI [1] (loopsOf api_Set__p0_u2_code)
noncomputable def api_Set__p0_u2_J : List Code := selI [] (joinsOf api_Set__p0_u2_code)
noncomputable def api_Set__p0_u2_S : List Code := scopesOf api_Set__p0_u2_code
theorem api_Set__p0_u2_l1_eq0 {ρ : Type} (k : Nat) (K : Ex → St UU → Option ρ) : ∀ (n : Nat) (v : (List S90) × Int × Int × (List Int) × Bool), iterK UX (fun s => s.at (api_Set__p0_u2_cfg (ρ := ρ) k).live (api_Set__p0_u2_cfg (ρ := ρ) k).boxes (some 1)) (exec UX (api_Set__p0_u2_cfg k) (api_Set__p0_u2_G k) (api_Set__p0_u2_L.getD 0 .skip)) n ⟨[(0, .ptr 1000 0), (8, .pv (.typ (.l90 v.1))), (9, .pv (.int .i64 v.2.1)), (10, .pv (.int .i64 v.2.2.1))], [(1000, [.own (.li_u8 v.2.2.2.1), .pv (.bool v.2.2.2.2)])]⟩ (nrmK UX (api_Set__p0_u2_cfg k) 1 K) = api_Set__p0_u2_l1 k (fun t1000_0 t1000_1 => K (.exit 0) ⟨[], [(1000, [.own (.li_u8 t1000_0), .pv (.bool t1000_1)])]⟩) n v.1 v.2.1 v.2.2.1 v.2.2.2.1 v.2.2.2.2 :=
  iter_rec (X := UX) (fun v => ⟨[(0, .ptr 1000 0), (8, .pv (.typ (.l90 v.1))), (9, .pv (.int .i64 v.2.1)), (10, .pv (.int .i64 v.2.2.1))], [(1000, [.own (.li_u8 v.2.2.2.1), .pv (.bool v.2.2.2.2)])]⟩) (fun rec v => api_Set__p0_u2_l1_b k (fun t1000_0 t1000_1 => K (.exit 0) ⟨[], [(1000, [.own (.li_u8 t1000_0), .pv (.bool t1000_1)])]⟩) (fun t8 t9 t10 t1000_0 t1000_1 => rec (t8, t9, t10, t1000_0, t1000_1)) v.1 v.2.1 v.2.2.1 v.2.2.2.1 v.2.2.2.2) (fun n v => api_Set__p0_u2_l1 k (fun t1000_0 t1000_1 => K (.exit 0) ⟨[], [(1000, [.own (.li_u8 t1000_0), .pv (.bool t1000_1)])]⟩) n v.1 v.2.1 v.2.2.1 v.2.2.2.1 v.2.2.2.2) (fun n v => by kernel_rfl) (fun _ => rfl) (fun _ _ => rfl)
theorem api_Set__p0_u2_l1_ok0 {ρ : Type} (k : Nat) : IterOK UX (api_Set__p0_u2_cfg (ρ := ρ) k) (api_Set__p0_u2_G k) (api_Set__p0_u2_L.getD 0 .skip) 1 (api_Set__p0_u2_l1_s k) := by
  intro s K r h
  obtain ⟨env, hp⟩ := s
  unfold api_Set__p0_u2_l1_s at h
  replace h := popS_inv h; obtain ⟨v1, e2, rfl, h⟩ := h
  replace h := asP_inv h; obtain ⟨rfl, h⟩ := h
  replace h := popS_inv h; obtain ⟨v3, e4, rfl, h⟩ := h
  replace h := as_l90_inv h; obtain ⟨t8, rfl, h⟩ := h
  replace h := popS_inv h; obtain ⟨v5, e6, rfl, h⟩ := h
  replace h := asI_inv h; obtain ⟨t9, rfl, h⟩ := h
  replace h := popS_inv h; obtain ⟨v7, e8, rfl, h⟩ := h
  replace h := asI_inv h; obtain ⟨t10, rfl, h⟩ := h
  replace h := popN_inv h; obtain ⟨rfl, h⟩ := h
  replace h := popB_inv h; obtain ⟨c9, e10, rfl, h⟩ := h
  replace h := popA_inv h; obtain ⟨v11, c12, rfl, h⟩ := h
  replace h := asO_li_u8_inv h; obtain ⟨t1000_0, rfl, h⟩ := h
  replace h := popA_inv h; obtain ⟨v13, c14, rfl, h⟩ := h
  replace h := asB_inv h; obtain ⟨z15, rfl, h⟩ := h
  replace h := popN_inv h; obtain ⟨rfl, h⟩ := h
  replace h := popN_inv h; obtain ⟨rfl, h⟩ := h
  exact ⟨k, (api_Set__p0_u2_l1_eq0 k K k (t8, t9, t10, t1000_0, z15)).trans h⟩
theorem api_Set__p0_u2_cok {ρ : Type} (k : Nat) : COK (api_Set__p0_u2_cfg (ρ := ρ) k) (api_Set__p0_u2_G k) api_Set__p0_u2_code :=
  cok_of (tl := [(1, api_Set__p0_u2_l1_s k)]) (tj := []) (tb := []) rfl rfl rfl (all_nth 1 (by kernel_rfl) ⟨iter_case (by kernel_rfl) rfl (api_Set__p0_u2_l1_ok0 k), trivial⟩) (nil_all (by kernel_rfl)) (fun p hp => by cases hp)
noncomputable def api_Set__p0_u2_enc (r : (Unit) × S51) : AV UU := .pv (.tup [])
noncomputable def api_Set__p0_u2_bx (r : (Unit) × S51) : List (List (AV UU)) := [[.own (.li_u8 r.2.f0), .pv (.bool r.2.f1)]]
noncomputable def api_Set__p0_u2_dec (v : AV UU) (b : List (List (AV UU))) : Option ((Unit) × S51) :=
asT v fun q1 =>
popN q1 <|
popA b fun c2 b3 =>
popA c2 fun v4 c5 =>
asO_li_u8 v4 fun z6 =>
popA c5 fun v7 c8 =>
asB v7 fun z9 =>
popN c8 <|
popN b3 <|
some ((), (⟨z6, z9⟩ : S51))
theorem api_Set__p0_u2_dec_enc (v : AV UU) (b : List (List (AV UU))) (r : (Unit) × S51) (_ : b.length = 1) (h : api_Set__p0_u2_dec v b = some r) : v = api_Set__p0_u2_enc r ∧ b = api_Set__p0_u2_bx r := by
  unfold api_Set__p0_u2_dec at h
  replace h := asT_inv h; obtain ⟨q1, rfl, h⟩ := h
  replace h := popN_inv h; obtain ⟨rfl, h⟩ := h
  replace h := popA_inv h; obtain ⟨c2, b3, rfl, h⟩ := h
  replace h := popA_inv h; obtain ⟨v4, c5, rfl, h⟩ := h
  replace h := asO_li_u8_inv h; obtain ⟨z6, rfl, h⟩ := h
  replace h := popA_inv h; obtain ⟨v7, c8, rfl, h⟩ := h
  replace h := asB_inv h; obtain ⟨z9, rfl, h⟩ := h
  replace h := popN_inv h; obtain ⟨rfl, h⟩ := h
  replace h := popN_inv h; obtain ⟨rfl, h⟩ := h
  cases h
  exact ⟨rfl, rfl⟩
theorem api_Set__p0_u2_eq (k : Nat) (l1 : List S90) (bx0 : S51) : bodyK UX (api_Set__p0_u2_cfg k) (api_Set__p0_u2_G k) Tryd.f57 [.ptr 1000 0, .pv (.typ (.l90 l1)), .undef] [[.own (.li_u8 bx0.f0), .pv (.bool bx0.f1)]] api_Set__p0_u2_dec = api_Set__p0_u2 k l1 bx0 := by kernel_rfl
theorem api_Set__p0_u2_con (k : Nat) (l1 : List S90) (bx0 : S51) (r : (Unit) × S51) (h : api_Set__p0_u2 k l1 bx0 = some r) : Con (X := UX) Tryd.prog 57 [.ptr 1000 0, .pv (.typ (.l90 l1)), .undef] [[.own (.li_u8 bx0.f0), .pv (.bool bx0.f1)]] (api_Set__p0_u2_enc r) (api_Set__p0_u2_bx r) :=
  con_of_bodyB (args := [.ptr 1000 0, .pv (.typ (.l90 l1)), .undef]) (bx := [[.own (.li_u8 bx0.f0), .pv (.bool bx0.f1)]]) xok tok Tryd.func57 api_Set__p0_u2_body (api_Set__p0_u2_gok k) rfl (api_Set__p0_u2_cok k) (of_decide_eq_true (by kernel_rfl)) (.inr (of_decide_eq_true (by kernel_rfl))) (fun v b r hl => api_Set__p0_u2_dec_enc v b r hl) ((api_Set__p0_u2_eq k l1 bx0).trans h)
noncomputable def api_Set__p0_u2_an {ρ : Type} (k : Nat) : An UX ρ := fun args bx K =>
popA args fun v1 a2 =>
asP 1000 0 v1 <|
popA a2 fun v3 a4 =>
as_l90 v3 fun l1 =>
popA a4 fun v5 a6 =>
asUn v5 <|
popN a6 <|
popA bx fun c7 b8 =>
popA c7 fun v9 c10 =>
asO_li_u8 v9 fun z11 =>
popA c10 fun v12 c13 =>
asB v12 fun z14 =>
popN c13 <|
popN b8 <|
(api_Set__p0_u2 k l1 (⟨z11, z14⟩ : S51)).bind fun r => K (api_Set__p0_u2_enc r) (api_Set__p0_u2_bx r)
theorem api_Set__p0_u2_ok {ρ : Type} (k : Nat) : AnsOK Tryd.prog 57 (api_Set__p0_u2_an (ρ := ρ) k) := by
  intro args bx K r h
  unfold api_Set__p0_u2_an at h
  replace h := popA_inv h; obtain ⟨v1, a2, rfl, h⟩ := h
  replace h := asP_inv h; obtain ⟨rfl, h⟩ := h
  replace h := popA_inv h; obtain ⟨v3, a4, rfl, h⟩ := h
  replace h := as_l90_inv h; obtain ⟨l1, rfl, h⟩ := h
  replace h := popA_inv h; obtain ⟨v5, a6, rfl, h⟩ := h
  replace h := asUn_inv h; obtain ⟨rfl, h⟩ := h
  replace h := popN_inv h; obtain ⟨rfl, h⟩ := h
  replace h := popA_inv h; obtain ⟨c7, b8, rfl, h⟩ := h
  replace h := popA_inv h; obtain ⟨v9, c10, rfl, h⟩ := h
  replace h := asO_li_u8_inv h; obtain ⟨z11, rfl, h⟩ := h
  replace h := popA_inv h; obtain ⟨v12, c13, rfl, h⟩ := h
  replace h := asB_inv h; obtain ⟨z14, rfl, h⟩ := h
  replace h := popN_inv h; obtain ⟨rfl, h⟩ := h
  replace h := popN_inv h; obtain ⟨rfl, h⟩ := h
  replace h := bind_inv h
  obtain ⟨x, hx, h⟩ := h
  exact ⟨there_of Tryd.func57 (by kernel_rfl) api_Set__p0_u2_body, _, _, h, api_Set__p0_u2_con k l1 (⟨z11, z14⟩ : S51) x hx⟩
end Go.Proofs.YtnoeedkbadoogaaDoor.P
