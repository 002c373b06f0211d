/-
  What the program's functions answer: the printed functions' answers.
-/
import Derived.Test.YtnoeedkbadoogaaDoorPG7
namespace Go.Proofs.YtnoeedkbadoogaaDoor.P
open Go Go.AX
/-! cadastre/cadastrelaw21.PrintValues -/
noncomputable def cadastrelaw21_PrintValues_code : Code := match Tryd.f3.body with | some c => c | none => .skip
theorem cadastrelaw21_PrintValues_body : Tryd.f3.body = some cadastrelaw21_PrintValues_code := by kernel_rfl
noncomputable def cadastrelaw21_PrintValues_G {ρ : Type} (k : Nat) : Ans UX ρ := gk 6 (cadastreref2_May_an k) (gk 7 (print_Expr_an k) (gk 8 (cadastrelaw21_num_an k) (gk 9 (cadastrelaw21_wakes_an k) (gnil))))
theorem cadastrelaw21_PrintValues_gok {ρ : Type} (k : Nat) : GOK Tryd.prog (cadastrelaw21_PrintValues_G (ρ := ρ) k) := gok_cons (cadastreref2_May_ok k) (gok_cons (print_Expr_ok k) (gok_cons (cadastrelaw21_num_ok k) (gok_cons (cadastrelaw21_wakes_ok k) (gok_nil))))
noncomputable def cadastrelaw21_PrintValues_l18_s {ρ : Type} (k : Nat) : Run UX ρ := fun s K =>
popS 0 s.env fun v1 e2 =>
as_l25 v1 fun l0 =>
popS 3 e2 fun v3 e4 =>
asI .i64 v3 fun i3 =>
popS 4 e4 fun v5 e6 =>
asP 4 0 v5 <|
popS 5 e6 fun v7 e8 =>
asS v7 fun t5 =>
popS 7 e8 fun v9 e10 =>
asI .i64 v9 fun n7 =>
popS 8 e10 fun v11 e12 =>
asI .i64 v11 fun k8 =>
popN e12 <|
popB 4 s.hp fun c13 e14 =>
popA c13 fun v15 c16 =>
asI .i64 v15 fun z17 =>
popA c16 fun v18 c19 =>
asI .i64 v18 fun z20 =>
popA c19 fun v21 c22 =>
asS v21 fun z23 =>
popN c22 <|
popN e14 <|
cadastrelaw21_PrintValues_l18 k (fun l0 i3 t5 n7 v4 => K (.exit 3) ⟨[(0, .pv (.typ (.l25 l0))), (3, .pv (.int .i64 i3)), (4, .ptr 4 0), (5, .pv (.str t5)), (7, .pv (.int .i64 n7))], [(4, [.pv (.int .i64 v4.f0), .pv (.int .i64 v4.f1), .pv (.str v4.f2)])]⟩) k l0 i3 t5 n7 k8 (⟨z17, z20, z23⟩ : S23)
noncomputable def cadastrelaw21_PrintValues_l26_s {ρ : Type} (k : Nat) : Run UX ρ := fun s K =>
popS 0 s.env fun v1 e2 =>
as_l25 v1 fun l0 =>
popS 3 e2 fun v3 e4 =>
asI .i64 v3 fun i3 =>
popS 4 e4 fun v5 e6 =>
asP 4 0 v5 <|
popS 5 e6 fun v7 e8 =>
asS v7 fun t5 =>
popS 9 e8 fun v9 e10 =>
asO_li_u8 v9 fun b9 =>
popS 10 e10 fun v11 e12 =>
asI .i64 v11 fun k10 =>
popN e12 <|
popB 4 s.hp fun c13 e14 =>
popA c13 fun v15 c16 =>
asI .i64 v15 fun z17 =>
popA c16 fun v18 c19 =>
asI .i64 v18 fun z20 =>
popA c19 fun v21 c22 =>
asS v21 fun z23 =>
popN c22 <|
popN e14 <|
cadastrelaw21_PrintValues_l26 k (fun l0 i3 t5 b9 v4 => K (.exit 5) ⟨[(0, .pv (.typ (.l25 l0))), (3, .pv (.int .i64 i3)), (4, .ptr 4 0), (5, .pv (.str t5)), (9, .own (.li_u8 b9))], [(4, [.pv (.int .i64 v4.f0), .pv (.int .i64 v4.f1), .pv (.str v4.f2)])]⟩) k l0 i3 t5 b9 k10 (⟨z17, z20, z23⟩ : S23)
noncomputable def cadastrelaw21_PrintValues_j9_s {ρ : Type} (k : Nat) : Run UX ρ := fun s K =>
popS 0 s.env fun v1 e2 =>
as_l25 v1 fun l0 =>
popS 3 e2 fun v3 e4 =>
asI .i64 v3 fun i3 =>
popS 4 e4 fun v5 e6 =>
asP 4 0 v5 <|
popS 5 e6 fun v7 e8 =>
asS v7 fun t5 =>
popN e8 <|
popB 4 s.hp fun c9 e10 =>
popA c9 fun v11 c12 =>
asI .i64 v11 fun z13 =>
popA c12 fun v14 c15 =>
asI .i64 v14 fun z16 =>
popA c15 fun v17 c18 =>
asS v17 fun z19 =>
popN c18 <|
popN e10 <|
cadastrelaw21_PrintValues_j9 k (fun t2 => K .ret ⟨[(2, .pv (.bool t2))], []⟩) (fun l0 i3 => K .nxt ⟨[(0, .pv (.typ (.l25 l0))), (3, .pv (.int .i64 i3))], []⟩) l0 i3 t5 (⟨z13, z16, z19⟩ : S23)
noncomputable def cadastrelaw21_PrintValues_j6_s {ρ : Type} (k : Nat) : Run UX ρ := fun s K =>
popS 0 s.env fun v1 e2 =>
as_l25 v1 fun l0 =>
popS 3 e2 fun v3 e4 =>
asI .i64 v3 fun i3 =>
popS 4 e4 fun v5 e6 =>
asP 4 0 v5 <|
popN e6 <|
popB 4 s.hp fun c7 e8 =>
popA c7 fun v9 c10 =>
asI .i64 v9 fun z11 =>
popA c10 fun v12 c13 =>
asI .i64 v12 fun z14 =>
popA c13 fun v15 c16 =>
asS v15 fun z17 =>
popN c16 <|
popN e8 <|
cadastrelaw21_PrintValues_j6 k (fun t2 => K .ret ⟨[(2, .pv (.bool t2))], []⟩) (fun l0 i3 => K .nxt ⟨[(0, .pv (.typ (.l25 l0))), (3, .pv (.int .i64 i3))], []⟩) l0 i3 (⟨z11, z14, z17⟩ : S23)
noncomputable def cadastrelaw21_PrintValues_j4_s {ρ : Type} (k : Nat) : Run UX ρ := fun s K =>
popS 0 s.env fun v1 e2 =>
as_l25 v1 fun l0 =>
popS 3 e2 fun v3 e4 =>
asI .i64 v3 fun i3 =>
popN e4 <|
popN s.hp <|
cadastrelaw21_PrintValues_j4 k (fun l0 i3 => K .nxt ⟨[(0, .pv (.typ (.l25 l0))), (3, .pv (.int .i64 i3))], []⟩) (fun t2 => K .ret ⟨[(2, .pv (.bool t2))], []⟩) l0 i3
noncomputable def cadastrelaw21_PrintValues_l2_s {ρ : Type} (k : Nat) : Run UX ρ := fun s K =>
popS 0 s.env fun v1 e2 =>
as_l25 v1 fun l0 =>
popS 3 e2 fun v3 e4 =>
asI .i64 v3 fun i3 =>
popN e4 <|
popN s.hp <|
cadastrelaw21_PrintValues_l2 k (fun t2 => K .ret ⟨[(2, .pv (.bool t2))], []⟩) (K (.exit 0) ⟨[], []⟩) k l0 i3
noncomputable def cadastrelaw21_PrintValues_cfg {ρ : Type} (k : Nat) : Cfg UX ρ where
  live i := (assoc [(0, [0]), (1, [0]), (2, [0, 3]), (3, [0, 3]), (4, [0, 3]), (5, [0, 3, 4]), (6, [0, 3, 4]), (7, [0, 3, 4, 5, 6]), (8, []), (9, [0, 3, 4, 5]), (10, [0, 3, 4, 5]), (11, []), (12, [0, 3, 4, 5, 55]), (13, [0, 3, 5]), (14, []), (15, [0, 3, 4, 5, 55]), (16, [0, 3, 4, 5]), (17, [0, 3, 4, 5, 7]), (18, [0, 3, 4, 5, 7, 8]), (19, [0, 3, 4, 5, 7, 8]), (20, [0, 3, 4, 5, 7, 8]), (21, [0, 3, 4, 5, 7]), (22, []), (23, [0, 3, 4, 5, 55]), (24, [0, 3, 4, 5]), (25, [0, 3, 4, 5, 9]), (26, [0, 3, 4, 5, 9, 10]), (27, [0, 3, 4, 5, 9, 10]), (28, [0, 3, 4, 5, 9, 10]), (29, [0, 3, 4, 5, 9, 10]), (30, [0, 3, 4, 5, 9, 10]), (31, [0, 3, 4, 5, 9]), (32, []), (33, [])] i).getD []
  boxes i := (assoc [(0, []), (1, []), (2, []), (3, []), (4, []), (5, [4]), (6, [4]), (7, [4]), (8, []), (9, [4]), (10, [4]), (11, []), (12, [4]), (13, []), (14, []), (15, [4]), (16, [4]), (17, [4]), (18, [4]), (19, [4]), (20, [4]), (21, [4]), (22, []), (23, [4]), (24, [4]), (25, [4]), (26, [4]), (27, [4]), (28, [4]), (29, [4]), (30, [4]), (31, [4]), (32, []), (33, [])] i).getD []
  tk i := (assoc [(1000000, [9])] i).getD []
  n := 143
  labelR l := (assoc [] l).getD 0
  loops := assoc [(18, cadastrelaw21_PrintValues_l18_s k), (26, cadastrelaw21_PrintValues_l26_s k), (2, cadastrelaw21_PrintValues_l2_s k)]
  labels := assoc []
  joins := assoc [(9, cadastrelaw21_PrintValues_j9_s k), (6, cadastrelaw21_PrintValues_j6_s k), (4, cadastrelaw21_PrintValues_j4_s k)]
  xl i e := match e with
    | .nxt => assoc [(9, ([0, 3], [])), (6, ([0, 3], [])), (4, ([0, 3], []))] i
    | .ret => assoc [(9, ([2], [])), (6, ([2], [])), (4, ([2], [])), (2, ([2], []))] i
    | .exit j => (assoc [(18, [(3, ([0, 3, 4, 5, 7], [4]))]), (26, [(5, ([0, 3, 4, 5, 9], [4]))]), (2, [(0, ([], []))])] i).bind fun l => assoc l j
    | .goto j => (assoc [] i).bind fun l => assoc l j
noncomputable def cadastrelaw21_PrintValues_L : List Code := selI [18, 26, 2] (loopsOf cadastrelaw21_PrintValues_code)
noncomputable def cadastrelaw21_PrintValues_J : List Code := selI [9, 6, 4] (joinsOf cadastrelaw21_PrintValues_code)
noncomputable def cadastrelaw21_PrintValues_S : List Code := scopesOf cadastrelaw21_PrintValues_code
theorem cadastrelaw21_PrintValues_l2_eq0 {ρ : Type} (k : Nat) (K : Ex → St UU → Option ρ) : ∀ (n : Nat) (v : (List T25) × Int), iterK UX (fun s => s.at (cadastrelaw21_PrintValues_cfg (ρ := ρ) k).live (cadastrelaw21_PrintValues_cfg (ρ := ρ) k).boxes (some 2)) (exec UX (cadastrelaw21_PrintValues_cfg k) (cadastrelaw21_PrintValues_G k) (cadastrelaw21_PrintValues_L.getD 0 .skip)) n ⟨[(0, .pv (.typ (.l25 v.1))), (3, .pv (.int .i64 v.2))], []⟩ (nrmK UX (cadastrelaw21_PrintValues_cfg k) 2 K) = cadastrelaw21_PrintValues_l2 k (fun t2 => K .ret ⟨[(2, .pv (.bool t2))], []⟩) (K (.exit 0) ⟨[], []⟩) n v.1 v.2 :=
  iter_rec (X := UX) (fun v => ⟨[(0, .pv (.typ (.l25 v.1))), (3, .pv (.int .i64 v.2))], []⟩) (fun rec v => cadastrelaw21_PrintValues_l2_b k (fun t2 => K .ret ⟨[(2, .pv (.bool t2))], []⟩) (K (.exit 0) ⟨[], []⟩) (fun l0 i3 => rec (l0, i3)) v.1 v.2) (fun n v => cadastrelaw21_PrintValues_l2 k (fun t2 => K .ret ⟨[(2, .pv (.bool t2))], []⟩) (K (.exit 0) ⟨[], []⟩) n v.1 v.2) (fun n v => by kernel_rfl) (fun _ => rfl) (fun _ _ => rfl)
theorem cadastrelaw21_PrintValues_l2_ok0 {ρ : Type} (k : Nat) : IterOK UX (cadastrelaw21_PrintValues_cfg (ρ := ρ) k) (cadastrelaw21_PrintValues_G k) (cadastrelaw21_PrintValues_L.getD 0 .skip) 2 (cadastrelaw21_PrintValues_l2_s k) := by
  intro s K r h
  obtain ⟨env, hp⟩ := s
  unfold cadastrelaw21_PrintValues_l2_s at h
  replace h := popS_inv h; obtain ⟨v1, e2, rfl, h⟩ := h
  replace h := as_l25_inv h; obtain ⟨l0, rfl, h⟩ := h
  replace h := popS_inv h; obtain ⟨v3, e4, rfl, h⟩ := h
  replace h := asI_inv h; obtain ⟨i3, rfl, h⟩ := h
  replace h := popN_inv h; obtain ⟨rfl, h⟩ := h
  replace h := popN_inv h; obtain ⟨rfl, h⟩ := h
  exact ⟨k, (cadastrelaw21_PrintValues_l2_eq0 k K k (l0, i3)).trans h⟩
theorem cadastrelaw21_PrintValues_l18_eq1 {ρ : Type} (k : Nat) (K : Ex → St UU → Option ρ) : ∀ (n : Nat) (v : (List T25) × Int × ByteArray × Int × Int × S23), iterK UX (fun s => s.at (cadastrelaw21_PrintValues_cfg (ρ := ρ) k).live (cadastrelaw21_PrintValues_cfg (ρ := ρ) k).boxes (some 18)) (exec UX (cadastrelaw21_PrintValues_cfg k) (cadastrelaw21_PrintValues_G k) (cadastrelaw21_PrintValues_L.getD 1 .skip)) n ⟨[(0, .pv (.typ (.l25 v.1))), (3, .pv (.int .i64 v.2.1)), (4, .ptr 4 0), (5, .pv (.str v.2.2.1)), (7, .pv (.int .i64 v.2.2.2.1)), (8, .pv (.int .i64 v.2.2.2.2.1))], [(4, [.pv (.int .i64 v.2.2.2.2.2.f0), .pv (.int .i64 v.2.2.2.2.2.f1), .pv (.str v.2.2.2.2.2.f2)])]⟩ (nrmK UX (cadastrelaw21_PrintValues_cfg k) 18 K) = cadastrelaw21_PrintValues_l18 k (fun l0 i3 t5 n7 v4 => K (.exit 3) ⟨[(0, .pv (.typ (.l25 l0))), (3, .pv (.int .i64 i3)), (4, .ptr 4 0), (5, .pv (.str t5)), (7, .pv (.int .i64 n7))], [(4, [.pv (.int .i64 v4.f0), .pv (.int .i64 v4.f1), .pv (.str v4.f2)])]⟩) n v.1 v.2.1 v.2.2.1 v.2.2.2.1 v.2.2.2.2.1 v.2.2.2.2.2 :=
  iter_rec (X := UX) (fun v => ⟨[(0, .pv (.typ (.l25 v.1))), (3, .pv (.int .i64 v.2.1)), (4, .ptr 4 0), (5, .pv (.str v.2.2.1)), (7, .pv (.int .i64 v.2.2.2.1)), (8, .pv (.int .i64 v.2.2.2.2.1))], [(4, [.pv (.int .i64 v.2.2.2.2.2.f0), .pv (.int .i64 v.2.2.2.2.2.f1), .pv (.str v.2.2.2.2.2.f2)])]⟩) (fun rec v => cadastrelaw21_PrintValues_l18_b k (fun l0 i3 t5 n7 v4 => K (.exit 3) ⟨[(0, .pv (.typ (.l25 l0))), (3, .pv (.int .i64 i3)), (4, .ptr 4 0), (5, .pv (.str t5)), (7, .pv (.int .i64 n7))], [(4, [.pv (.int .i64 v4.f0), .pv (.int .i64 v4.f1), .pv (.str v4.f2)])]⟩) (fun l0 i3 t5 n7 k8 v4 => rec (l0, i3, t5, n7, k8, v4)) v.1 v.2.1 v.2.2.1 v.2.2.2.1 v.2.2.2.2.1 v.2.2.2.2.2) (fun n v => cadastrelaw21_PrintValues_l18 k (fun l0 i3 t5 n7 v4 => K (.exit 3) ⟨[(0, .pv (.typ (.l25 l0))), (3, .pv (.int .i64 i3)), (4, .ptr 4 0), (5, .pv (.str t5)), (7, .pv (.int .i64 n7))], [(4, [.pv (.int .i64 v4.f0), .pv (.int .i64 v4.f1), .pv (.str v4.f2)])]⟩) n v.1 v.2.1 v.2.2.1 v.2.2.2.1 v.2.2.2.2.1 v.2.2.2.2.2) (fun n v => by kernel_rfl) (fun _ => rfl) (fun _ _ => rfl)
theorem cadastrelaw21_PrintValues_l18_ok1 {ρ : Type} (k : Nat) : IterOK UX (cadastrelaw21_PrintValues_cfg (ρ := ρ) k) (cadastrelaw21_PrintValues_G k) (cadastrelaw21_PrintValues_L.getD 1 .skip) 18 (cadastrelaw21_PrintValues_l18_s k) := by
  intro s K r h
  obtain ⟨env, hp⟩ := s
  unfold cadastrelaw21_PrintValues_l18_s at h
  replace h := popS_inv h; obtain ⟨v1, e2, rfl, h⟩ := h
  replace h := as_l25_inv h; obtain ⟨l0, rfl, h⟩ := h
  replace h := popS_inv h; obtain ⟨v3, e4, rfl, h⟩ := h
  replace h := asI_inv h; obtain ⟨i3, rfl, h⟩ := h
  replace h := popS_inv h; obtain ⟨v5, e6, rfl, h⟩ := h
  replace h := asP_inv h; obtain ⟨rfl, h⟩ := h
  replace h := popS_inv h; obtain ⟨v7, e8, rfl, h⟩ := h
  replace h := asS_inv h; obtain ⟨t5, rfl, h⟩ := h
  replace h := popS_inv h; obtain ⟨v9, e10, rfl, h⟩ := h
  replace h := asI_inv h; obtain ⟨n7, rfl, h⟩ := h
  replace h := popS_inv h; obtain ⟨v11, e12, rfl, h⟩ := h
  replace h := asI_inv h; obtain ⟨k8, rfl, h⟩ := h
  replace h := popN_inv h; obtain ⟨rfl, h⟩ := h
  replace h := popB_inv h; obtain ⟨c13, e14, rfl, h⟩ := h
  replace h := popA_inv h; obtain ⟨v15, c16, rfl, h⟩ := h
  replace h := asI_inv h; obtain ⟨z17, rfl, h⟩ := h
  replace h := popA_inv h; obtain ⟨v18, c19, rfl, h⟩ := h
  replace h := asI_inv h; obtain ⟨z20, rfl, h⟩ := h
  replace h := popA_inv h; obtain ⟨v21, c22, rfl, h⟩ := h
  replace h := asS_inv h; obtain ⟨z23, rfl, h⟩ := h
  replace h := popN_inv h; obtain ⟨rfl, h⟩ := h
  replace h := popN_inv h; obtain ⟨rfl, h⟩ := h
  exact ⟨k, (cadastrelaw21_PrintValues_l18_eq1 k K k (l0, i3, t5, n7, k8, (⟨z17, z20, z23⟩ : S23))).trans h⟩
theorem cadastrelaw21_PrintValues_l26_eq2 {ρ : Type} (k : Nat) (K : Ex → St UU → Option ρ) : ∀ (n : Nat) (v : (List T25) × Int × ByteArray × (List Int) × Int × S23), iterK UX (fun s => s.at (cadastrelaw21_PrintValues_cfg (ρ := ρ) k).live (cadastrelaw21_PrintValues_cfg (ρ := ρ) k).boxes (some 26)) (exec UX (cadastrelaw21_PrintValues_cfg k) (cadastrelaw21_PrintValues_G k) (cadastrelaw21_PrintValues_L.getD 2 .skip)) n ⟨[(0, .pv (.typ (.l25 v.1))), (3, .pv (.int .i64 v.2.1)), (4, .ptr 4 0), (5, .pv (.str v.2.2.1)), (9, .own (.li_u8 v.2.2.2.1)), (10, .pv (.int .i64 v.2.2.2.2.1))], [(4, [.pv (.int .i64 v.2.2.2.2.2.f0), .pv (.int .i64 v.2.2.2.2.2.f1), .pv (.str v.2.2.2.2.2.f2)])]⟩ (nrmK UX (cadastrelaw21_PrintValues_cfg k) 26 K) = cadastrelaw21_PrintValues_l26 k (fun l0 i3 t5 b9 v4 => K (.exit 5) ⟨[(0, .pv (.typ (.l25 l0))), (3, .pv (.int .i64 i3)), (4, .ptr 4 0), (5, .pv (.str t5)), (9, .own (.li_u8 b9))], [(4, [.pv (.int .i64 v4.f0), .pv (.int .i64 v4.f1), .pv (.str v4.f2)])]⟩) n v.1 v.2.1 v.2.2.1 v.2.2.2.1 v.2.2.2.2.1 v.2.2.2.2.2 :=
  iter_rec (X := UX) (fun v => ⟨[(0, .pv (.typ (.l25 v.1))), (3, .pv (.int .i64 v.2.1)), (4, .ptr 4 0), (5, .pv (.str v.2.2.1)), (9, .own (.li_u8 v.2.2.2.1)), (10, .pv (.int .i64 v.2.2.2.2.1))], [(4, [.pv (.int .i64 v.2.2.2.2.2.f0), .pv (.int .i64 v.2.2.2.2.2.f1), .pv (.str v.2.2.2.2.2.f2)])]⟩) (fun rec v => cadastrelaw21_PrintValues_l26_b k (fun l0 i3 t5 b9 v4 => K (.exit 5) ⟨[(0, .pv (.typ (.l25 l0))), (3, .pv (.int .i64 i3)), (4, .ptr 4 0), (5, .pv (.str t5)), (9, .own (.li_u8 b9))], [(4, [.pv (.int .i64 v4.f0), .pv (.int .i64 v4.f1), .pv (.str v4.f2)])]⟩) (fun l0 i3 t5 b9 k10 v4 => rec (l0, i3, t5, b9, k10, v4)) v.1 v.2.1 v.2.2.1 v.2.2.2.1 v.2.2.2.2.1 v.2.2.2.2.2) (fun n v => cadastrelaw21_PrintValues_l26 k (fun l0 i3 t5 b9 v4 => K (.exit 5) ⟨[(0, .pv (.typ (.l25 l0))), (3, .pv (.int .i64 i3)), (4, .ptr 4 0), (5, .pv (.str t5)), (9, .own (.li_u8 b9))], [(4, [.pv (.int .i64 v4.f0), .pv (.int .i64 v4.f1), .pv (.str v4.f2)])]⟩) n v.1 v.2.1 v.2.2.1 v.2.2.2.1 v.2.2.2.2.1 v.2.2.2.2.2) (fun n v => by kernel_rfl) (fun _ => rfl) (fun _ _ => rfl)
theorem cadastrelaw21_PrintValues_l26_ok2 {ρ : Type} (k : Nat) : IterOK UX (cadastrelaw21_PrintValues_cfg (ρ := ρ) k) (cadastrelaw21_PrintValues_G k) (cadastrelaw21_PrintValues_L.getD 2 .skip) 26 (cadastrelaw21_PrintValues_l26_s k) := by
  intro s K r h
  obtain ⟨env, hp⟩ := s
  unfold cadastrelaw21_PrintValues_l26_s at h
  replace h := popS_inv h; obtain ⟨v1, e2, rfl, h⟩ := h
  replace h := as_l25_inv h; obtain ⟨l0, rfl, h⟩ := h
  replace h := popS_inv h; obtain ⟨v3, e4, rfl, h⟩ := h
  replace h := asI_inv h; obtain ⟨i3, rfl, h⟩ := h
  replace h := popS_inv h; obtain ⟨v5, e6, rfl, h⟩ := h
  replace h := asP_inv h; obtain ⟨rfl, h⟩ := h
  replace h := popS_inv h; obtain ⟨v7, e8, rfl, h⟩ := h
  replace h := asS_inv h; obtain ⟨t5, rfl, h⟩ := h
  replace h := popS_inv h; obtain ⟨v9, e10, rfl, h⟩ := h
  replace h := asO_li_u8_inv h; obtain ⟨b9, rfl, h⟩ := h
  replace h := popS_inv h; obtain ⟨v11, e12, rfl, h⟩ := h
  replace h := asI_inv h; obtain ⟨k10, rfl, h⟩ := h
  replace h := popN_inv h; obtain ⟨rfl, h⟩ := h
  replace h := popB_inv h; obtain ⟨c13, e14, rfl, h⟩ := h
  replace h := popA_inv h; obtain ⟨v15, c16, rfl, h⟩ := h
  replace h := asI_inv h; obtain ⟨z17, rfl, h⟩ := h
  replace h := popA_inv h; obtain ⟨v18, c19, rfl, h⟩ := h
  replace h := asI_inv h; obtain ⟨z20, rfl, h⟩ := h
  replace h := popA_inv h; obtain ⟨v21, c22, rfl, h⟩ := h
  replace h := asS_inv h; obtain ⟨z23, rfl, h⟩ := h
  replace h := popN_inv h; obtain ⟨rfl, h⟩ := h
  replace h := popN_inv h; obtain ⟨rfl, h⟩ := h
  exact ⟨k, (cadastrelaw21_PrintValues_l26_eq2 k K k (l0, i3, t5, b9, k10, (⟨z17, z20, z23⟩ : S23))).trans h⟩
theorem cadastrelaw21_PrintValues_j4_eq0 {ρ : Type} (k : Nat) (K : Ex → St UU → Option ρ) (l0 : List T25) (i3 : Int) : exec UX (cadastrelaw21_PrintValues_cfg k) (cadastrelaw21_PrintValues_G k) (cadastrelaw21_PrintValues_J.getD 0 .skip) ⟨[(0, .pv (.typ (.l25 l0))), (3, .pv (.int .i64 i3))], []⟩ (nrmK UX (cadastrelaw21_PrintValues_cfg k) 4 K) = cadastrelaw21_PrintValues_j4 k (fun l0 i3 => K .nxt ⟨[(0, .pv (.typ (.l25 l0))), (3, .pv (.int .i64 i3))], []⟩) (fun t2 => K .ret ⟨[(2, .pv (.bool t2))], []⟩) l0 i3 := by kernel_rfl
theorem cadastrelaw21_PrintValues_j4_ok0 {ρ : Type} (k : Nat) : JoinOK UX (cadastrelaw21_PrintValues_cfg (ρ := ρ) k) (cadastrelaw21_PrintValues_G k) (cadastrelaw21_PrintValues_J.getD 0 .skip) 4 (cadastrelaw21_PrintValues_j4_s k) := by
  intro s K r h
  obtain ⟨env, hp⟩ := s
  unfold cadastrelaw21_PrintValues_j4_s at h
  replace h := popS_inv h; obtain ⟨v1, e2, rfl, h⟩ := h
  replace h := as_l25_inv h; obtain ⟨l0, rfl, h⟩ := h
  replace h := popS_inv h; obtain ⟨v3, e4, rfl, h⟩ := h
  replace h := asI_inv h; obtain ⟨i3, rfl, h⟩ := h
  replace h := popN_inv h; obtain ⟨rfl, h⟩ := h
  replace h := popN_inv h; obtain ⟨rfl, h⟩ := h
  exact (cadastrelaw21_PrintValues_j4_eq0 k K l0 i3).trans h
theorem cadastrelaw21_PrintValues_j6_eq1 {ρ : Type} (k : Nat) (K : Ex → St UU → Option ρ) (l0 : List T25) (i3 : Int) (v4 : S23) : exec UX (cadastrelaw21_PrintValues_cfg k) (cadastrelaw21_PrintValues_G k) (cadastrelaw21_PrintValues_J.getD 1 .skip) ⟨[(0, .pv (.typ (.l25 l0))), (3, .pv (.int .i64 i3)), (4, .ptr 4 0)], [(4, [.pv (.int .i64 v4.f0), .pv (.int .i64 v4.f1), .pv (.str v4.f2)])]⟩ (nrmK UX (cadastrelaw21_PrintValues_cfg k) 6 K) = cadastrelaw21_PrintValues_j6 k (fun t2 => K .ret ⟨[(2, .pv (.bool t2))], []⟩) (fun l0 i3 => K .nxt ⟨[(0, .pv (.typ (.l25 l0))), (3, .pv (.int .i64 i3))], []⟩) l0 i3 v4 := by kernel_rfl
theorem cadastrelaw21_PrintValues_j6_ok1 {ρ : Type} (k : Nat) : JoinOK UX (cadastrelaw21_PrintValues_cfg (ρ := ρ) k) (cadastrelaw21_PrintValues_G k) (cadastrelaw21_PrintValues_J.getD 1 .skip) 6 (cadastrelaw21_PrintValues_j6_s k) := by
  intro s K r h
  obtain ⟨env, hp⟩ := s
  unfold cadastrelaw21_PrintValues_j6_s at h
  replace h := popS_inv h; obtain ⟨v1, e2, rfl, h⟩ := h
  replace h := as_l25_inv h; obtain ⟨l0, rfl, h⟩ := h
  replace h := popS_inv h; obtain ⟨v3, e4, rfl, h⟩ := h
  replace h := asI_inv h; obtain ⟨i3, rfl, h⟩ := h
  replace h := popS_inv h; obtain ⟨v5, e6, rfl, h⟩ := h
  replace h := asP_inv h; obtain ⟨rfl, h⟩ := h
  replace h := popN_inv h; obtain ⟨rfl, h⟩ := h
  replace h := popB_inv h; obtain ⟨c7, e8, rfl, h⟩ := h
  replace h := popA_inv h; obtain ⟨v9, c10, rfl, h⟩ := h
  replace h := asI_inv h; obtain ⟨z11, rfl, h⟩ := h
  replace h := popA_inv h; obtain ⟨v12, c13, rfl, h⟩ := h
  replace h := asI_inv h; obtain ⟨z14, rfl, h⟩ := h
  replace h := popA_inv h; obtain ⟨v15, c16, rfl, h⟩ := h
  replace h := asS_inv h; obtain ⟨z17, rfl, h⟩ := h
  replace h := popN_inv h; obtain ⟨rfl, h⟩ := h
  replace h := popN_inv h; obtain ⟨rfl, h⟩ := h
  exact (cadastrelaw21_PrintValues_j6_eq1 k K l0 i3 (⟨z11, z14, z17⟩ : S23)).trans h
theorem cadastrelaw21_PrintValues_j9_eq2 {ρ : Type} (k : Nat) (K : Ex → St UU → Option ρ) (l0 : List T25) (i3 : Int) (t5 : ByteArray) (v4 : S23) : exec UX (cadastrelaw21_PrintValues_cfg k) (cadastrelaw21_PrintValues_G k) (cadastrelaw21_PrintValues_J.getD 2 .skip) ⟨[(0, .pv (.typ (.l25 l0))), (3, .pv (.int .i64 i3)), (4, .ptr 4 0), (5, .pv (.str t5))], [(4, [.pv (.int .i64 v4.f0), .pv (.int .i64 v4.f1), .pv (.str v4.f2)])]⟩ (nrmK UX (cadastrelaw21_PrintValues_cfg k) 9 K) = cadastrelaw21_PrintValues_j9 k (fun t2 => K .ret ⟨[(2, .pv (.bool t2))], []⟩) (fun l0 i3 => K .nxt ⟨[(0, .pv (.typ (.l25 l0))), (3, .pv (.int .i64 i3))], []⟩) l0 i3 t5 v4 := by kernel_rfl
theorem cadastrelaw21_PrintValues_j9_ok2 {ρ : Type} (k : Nat) : JoinOK UX (cadastrelaw21_PrintValues_cfg (ρ := ρ) k) (cadastrelaw21_PrintValues_G k) (cadastrelaw21_PrintValues_J.getD 2 .skip) 9 (cadastrelaw21_PrintValues_j9_s k) := by
  intro s K r h
  obtain ⟨env, hp⟩ := s
  unfold cadastrelaw21_PrintValues_j9_s at h
  replace h := popS_inv h; obtain ⟨v1, e2, rfl, h⟩ := h
  replace h := as_l25_inv h; obtain ⟨l0, rfl, h⟩ := h
  replace h := popS_inv h; obtain ⟨v3, e4, rfl, h⟩ := h
  replace h := asI_inv h; obtain ⟨i3, rfl, h⟩ := h
  replace h := popS_inv h; obtain ⟨v5, e6, rfl, h⟩ := h
  replace h := asP_inv h; obtain ⟨rfl, h⟩ := h
  replace h := popS_inv h; obtain ⟨v7, e8, rfl, h⟩ := h
  replace h := asS_inv h; obtain ⟨t5, rfl, h⟩ := h
  replace h := popN_inv h; obtain ⟨rfl, h⟩ := h
  replace h := popB_inv h; obtain ⟨c9, e10, rfl, h⟩ := h
  replace h := popA_inv h; obtain ⟨v11, c12, rfl, h⟩ := h
  replace h := asI_inv h; obtain ⟨z13, rfl, h⟩ := h
  replace h := popA_inv h; obtain ⟨v14, c15, rfl, h⟩ := h
  replace h := asI_inv h; obtain ⟨z16, rfl, h⟩ := h
  replace h := popA_inv h; obtain ⟨v17, c18, rfl, h⟩ := h
  replace h := asS_inv h; obtain ⟨z19, rfl, h⟩ := h
  replace h := popN_inv h; obtain ⟨rfl, h⟩ := h
  replace h := popN_inv h; obtain ⟨rfl, h⟩ := h
  exact (cadastrelaw21_PrintValues_j9_eq2 k K l0 i3 t5 (⟨z13, z16, z19⟩ : S23)).trans h
theorem cadastrelaw21_PrintValues_cok {ρ : Type} (k : Nat) : COK (cadastrelaw21_PrintValues_cfg (ρ := ρ) k) (cadastrelaw21_PrintValues_G k) cadastrelaw21_PrintValues_code :=
  cok_of (tl := [(18, cadastrelaw21_PrintValues_l18_s k), (26, cadastrelaw21_PrintValues_l26_s k), (2, cadastrelaw21_PrintValues_l2_s k)]) (tj := [(9, cadastrelaw21_PrintValues_j9_s k), (6, cadastrelaw21_PrintValues_j6_s k), (4, cadastrelaw21_PrintValues_j4_s k)]) (tb := []) rfl rfl rfl (all_nth 3 (by kernel_rfl) ⟨iter_case (by kernel_rfl) rfl (cadastrelaw21_PrintValues_l26_ok2 k), iter_case (by kernel_rfl) rfl (cadastrelaw21_PrintValues_l18_ok1 k), iter_case (by kernel_rfl) rfl (cadastrelaw21_PrintValues_l2_ok0 k), trivial⟩) (all_nth 3 (by kernel_rfl) ⟨join_case (by kernel_rfl) rfl (cadastrelaw21_PrintValues_j9_ok2 k), join_case (by kernel_rfl) rfl (cadastrelaw21_PrintValues_j6_ok1 k), join_case (by kernel_rfl) rfl (cadastrelaw21_PrintValues_j4_ok0 k), trivial⟩) (fun p hp => by cases hp)
noncomputable def cadastrelaw21_PrintValues_enc (r : Bool) : AV UU := .pv (.bool r)
noncomputable def cadastrelaw21_PrintValues_dec (v : AV UU) (_ : List (List (AV UU))) : Option Bool :=
asB v fun r0 =>
some r0
theorem cadastrelaw21_PrintValues_dec_enc (v : AV UU) (b : List (List (AV UU))) (r : Bool) (h : cadastrelaw21_PrintValues_dec v b = some r) : v = cadastrelaw21_PrintValues_enc r := by
  unfold cadastrelaw21_PrintValues_dec at h
  replace h := asB_inv h; obtain ⟨r0, rfl, h⟩ := h
  cases h
  rfl
theorem cadastrelaw21_PrintValues_eq (k : Nat) (l0 : List T25) : bodyK UX (cadastrelaw21_PrintValues_cfg k) (cadastrelaw21_PrintValues_G k) Tryd.f3 [.pv (.typ (.l25 l0))] [] cadastrelaw21_PrintValues_dec = cadastrelaw21_PrintValues k l0 := by kernel_rfl
theorem cadastrelaw21_PrintValues_con (k : Nat) (l0 : List T25) (r : Bool) (h : cadastrelaw21_PrintValues k l0 = some r) : Con (X := UX) Tryd.prog 3 [.pv (.typ (.l25 l0))] [] (cadastrelaw21_PrintValues_enc r) [] :=
  con_of_body xok tok Tryd.func3 cadastrelaw21_PrintValues_body (cadastrelaw21_PrintValues_gok k) rfl (cadastrelaw21_PrintValues_cok k) (of_decide_eq_true (by kernel_rfl)) cadastrelaw21_PrintValues_dec_enc ((cadastrelaw21_PrintValues_eq k l0).trans h)
noncomputable def cadastrelaw21_PrintValues_an {ρ : Type} (k : Nat) : An UX ρ := fun args bx K =>
popA args fun v1 a2 =>
as_l25 v1 fun l0 =>
popN a2 <|
popN bx <|
(cadastrelaw21_PrintValues k l0).bind fun r => K (cadastrelaw21_PrintValues_enc r) []
theorem cadastrelaw21_PrintValues_ok {ρ : Type} (k : Nat) : AnsOK Tryd.prog 3 (cadastrelaw21_PrintValues_an (ρ := ρ) k) := by
  intro args bx K r h
  unfold cadastrelaw21_PrintValues_an at h
  replace h := popA_inv h; obtain ⟨v1, a2, rfl, h⟩ := h
  replace h := as_l25_inv h; obtain ⟨l0, rfl, h⟩ := h
  replace h := popN_inv h; obtain ⟨rfl, h⟩ := h
  replace h := popN_inv h; obtain ⟨rfl, h⟩ := h
  replace h := bind_inv h
  obtain ⟨x, hx, h⟩ := h
  exact ⟨there_of Tryd.func3 (by kernel_rfl) cadastrelaw21_PrintValues_body, _, _, h, cadastrelaw21_PrintValues_con k l0 x hx⟩
end Go.Proofs.YtnoeedkbadoogaaDoor.P
