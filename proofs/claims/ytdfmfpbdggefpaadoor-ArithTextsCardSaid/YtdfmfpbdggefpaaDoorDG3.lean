/-
  What the program's functions answer: the printed functions' answers.
-/
import Derived.Test.YtdfmfpbdggefpaaDoorDG2
namespace Go.Proofs.YtdfmfpbdggefpaaDoor.D
open Go Go.AX
/-! cadastre/cadastrelaw5.CastStores -/
noncomputable def cadastrelaw5_CastStores_code : Code := match Tryd.f4.body with | some c => c | none => .skip
theorem cadastrelaw5_CastStores_body : Tryd.f4.body = some cadastrelaw5_CastStores_code := by kernel_rfl
noncomputable def cadastrelaw5_CastStores_G {ρ : Type} (k : Nat) : Ans UX ρ := gk 14 (cast_Store_an k) (gk 11 (cadastreref2_May_an k) (gk 12 (cadastreref2_Type_an k) (gk 13 (cadastreref4_Store_an k) (gk 10 (cadastrelaw5_num_an k) (gk 15 (cadastrelaw5_wakes_an k) (gnil))))))
theorem cadastrelaw5_CastStores_gok {ρ : Type} (k : Nat) : GOK Tryd.prog (cadastrelaw5_CastStores_G (ρ := ρ) k) := gok_cons (cast_Store_ok k) (gok_cons (cadastreref2_May_ok k) (gok_cons (cadastreref2_Type_ok k) (gok_cons (cadastreref4_Store_ok k) (gok_cons (cadastrelaw5_num_ok k) (gok_cons (cadastrelaw5_wakes_ok k) (gok_nil))))))
noncomputable def cadastrelaw5_CastStores_j10_s {ρ : Type} (k : Nat) : Run UX ρ := fun s K =>
popS 0 s.env fun v1 e2 =>
as_l25 v1 fun l0 =>
popS 3 e2 fun v3 e4 =>
asI .i64 v3 fun i3 =>
popS 4 e4 fun v5 e6 =>
asI .i64 v5 fun t4 =>
popS 5 e6 fun v7 e8 =>
asP 5 0 v7 <|
popS 6 e8 fun v9 e10 =>
asI .i64 v9 fun e6 =>
popS 7 e10 fun v11 e12 =>
asP 7 0 v11 <|
popN e12 <|
popB 5 s.hp fun c13 e14 =>
popA c13 fun v15 c16 =>
asI .i64 v15 fun z17 =>
popA c16 fun v18 c19 =>
asI .i64 v18 fun z20 =>
popA c19 fun v21 c22 =>
asS v21 fun z23 =>
popN c22 <|
popB 7 e14 fun c24 e25 =>
popA c24 fun v26 c27 =>
asI .i64 v26 fun z28 =>
popA c27 fun v29 c30 =>
asI .i64 v29 fun z31 =>
popA c30 fun v32 c33 =>
asS v32 fun z34 =>
popN c33 <|
popN e25 <|
cadastrelaw5_CastStores_j10 k (fun l0 i3 t4 e6 bad8 v5 want7 => K .nxt ⟨[(0, .pv (.typ (.l25 l0))), (3, .pv (.int .i64 i3)), (4, .pv (.int .i64 t4)), (5, .ptr 5 0), (6, .pv (.int .i64 e6)), (7, .ptr 7 0), (8, .pv (.int .i64 bad8))], [(5, [.pv (.int .i64 v5.f0), .pv (.int .i64 v5.f1), .pv (.str v5.f2)]), (7, [.pv (.int .i64 want7.f0), .pv (.int .i64 want7.f1), .pv (.str want7.f2)])]⟩) l0 i3 t4 e6 (⟨z17, z20, z23⟩ : S23) (⟨z28, z31, z34⟩ : S23)
noncomputable def cadastrelaw5_CastStores_j11_s {ρ : Type} (k : Nat) : Run UX ρ := fun s K =>
popS 0 s.env fun v1 e2 =>
as_l25 v1 fun l0 =>
popS 3 e2 fun v3 e4 =>
asI .i64 v3 fun i3 =>
popS 4 e4 fun v5 e6 =>
asI .i64 v5 fun t4 =>
popS 5 e6 fun v7 e8 =>
asP 5 0 v7 <|
popS 6 e8 fun v9 e10 =>
asI .i64 v9 fun e6 =>
popS 7 e10 fun v11 e12 =>
asP 7 0 v11 <|
popS 8 e12 fun v13 e14 =>
asI .i64 v13 fun bad8 =>
popN e14 <|
popB 5 s.hp fun c15 e16 =>
popA c15 fun v17 c18 =>
asI .i64 v17 fun z19 =>
popA c18 fun v20 c21 =>
asI .i64 v20 fun z22 =>
popA c21 fun v23 c24 =>
asS v23 fun z25 =>
popN c24 <|
popB 7 e16 fun c26 e27 =>
popA c26 fun v28 c29 =>
asI .i64 v28 fun z30 =>
popA c29 fun v31 c32 =>
asI .i64 v31 fun z33 =>
popA c32 fun v34 c35 =>
asS v34 fun z36 =>
popN c35 <|
popN e27 <|
cadastrelaw5_CastStores_j11 k (fun t2 => K .ret ⟨[(2, .pv (.bool t2))], []⟩) (fun l0 i3 t4 => K .nxt ⟨[(0, .pv (.typ (.l25 l0))), (3, .pv (.int .i64 i3)), (4, .pv (.int .i64 t4))], []⟩) l0 i3 t4 e6 bad8 (⟨z19, z22, z25⟩ : S23) (⟨z30, z33, z36⟩ : S23)
noncomputable def cadastrelaw5_CastStores_l5_s {ρ : Type} (k : Nat) : Run UX ρ := fun s K =>
popS 0 s.env fun v1 e2 =>
as_l25 v1 fun l0 =>
popS 3 e2 fun v3 e4 =>
asI .i64 v3 fun i3 =>
popS 4 e4 fun v5 e6 =>
asI .i64 v5 fun t4 =>
popN e6 <|
popN s.hp <|
cadastrelaw5_CastStores_l5 k (fun t2 => K .ret ⟨[(2, .pv (.bool t2))], []⟩) (fun l0 i3 => K (.exit 2) ⟨[(0, .pv (.typ (.l25 l0))), (3, .pv (.int .i64 i3))], []⟩) k l0 i3 t4
noncomputable def cadastrelaw5_CastStores_j4_s {ρ : Type} (k : Nat) : Run UX ρ := fun s K =>
popS 0 s.env fun v1 e2 =>
as_l25 v1 fun l0 =>
popS 3 e2 fun v3 e4 =>
asI .i64 v3 fun i3 =>
popN e4 <|
popN s.hp <|
cadastrelaw5_CastStores_j4 k (fun t2 => K .ret ⟨[(2, .pv (.bool t2))], []⟩) (fun l0 i3 => K .nxt ⟨[(0, .pv (.typ (.l25 l0))), (3, .pv (.int .i64 i3))], []⟩) l0 i3
noncomputable def cadastrelaw5_CastStores_l2_s {ρ : Type} (k : Nat) : Run UX ρ := fun s K =>
popS 0 s.env fun v1 e2 =>
as_l25 v1 fun l0 =>
popS 3 e2 fun v3 e4 =>
asI .i64 v3 fun i3 =>
popN e4 <|
popN s.hp <|
cadastrelaw5_CastStores_l2 k (fun t2 => K .ret ⟨[(2, .pv (.bool t2))], []⟩) (K (.exit 0) ⟨[], []⟩) k l0 i3
noncomputable def cadastrelaw5_CastStores_cfg {ρ : Type} (k : Nat) : Cfg UX ρ where
  live i := (assoc [(0, [0]), (1, [0]), (2, [0, 3]), (3, [0, 3]), (4, [0, 3]), (5, [0, 3, 4]), (6, [0, 3, 4]), (7, [0, 3, 4]), (8, [0, 3, 4, 5, 6]), (9, [0, 3, 4, 5, 6, 7, 8]), (10, [0, 3, 4, 5, 6, 7]), (11, [0, 3, 4, 5, 6, 7, 8]), (12, []), (13, [])] i).getD []
  boxes i := (assoc [(0, []), (1, []), (2, []), (3, []), (4, []), (5, []), (6, []), (7, []), (8, [5]), (9, [5, 7]), (10, [5, 7]), (11, [5, 7]), (12, []), (13, [])] i).getD []
  tk i := (assoc [] i).getD []
  n := 64
  labelR l := (assoc [] l).getD 0
  loops := assoc [(5, cadastrelaw5_CastStores_l5_s k), (2, cadastrelaw5_CastStores_l2_s k)]
  labels := assoc []
  joins := assoc [(10, cadastrelaw5_CastStores_j10_s k), (11, cadastrelaw5_CastStores_j11_s k), (4, cadastrelaw5_CastStores_j4_s k)]
  xl i e := match e with
    | .nxt => assoc [(10, ([0, 3, 4, 5, 6, 7, 8], [5, 7])), (11, ([0, 3, 4], [])), (4, ([0, 3], []))] i
    | .ret => assoc [(11, ([2], [])), (5, ([2], [])), (4, ([2], [])), (2, ([2], []))] i
    | .exit j => (assoc [(5, [(2, ([0, 3], []))]), (2, [(0, ([], []))])] i).bind fun l => assoc l j
    | .goto j => (assoc [] i).bind fun l => assoc l j
noncomputable def cadastrelaw5_CastStores_L : List Code := selI [5, 2] (loopsOf cadastrelaw5_CastStores_code)
noncomputable def cadastrelaw5_CastStores_J : List Code := selI [10, 11, 4] (joinsOf cadastrelaw5_CastStores_code)
noncomputable def cadastrelaw5_CastStores_S : List Code := scopesOf cadastrelaw5_CastStores_code
theorem cadastrelaw5_CastStores_l2_eq0 {ρ : Type} (k : Nat) (K : Ex → St UU → Option ρ) : ∀ (n : Nat) (v : (List S25) × Int), iterK UX (fun s => s.at (cadastrelaw5_CastStores_cfg (ρ := ρ) k).live (cadastrelaw5_CastStores_cfg (ρ := ρ) k).boxes (some 2)) (exec UX (cadastrelaw5_CastStores_cfg k) (cadastrelaw5_CastStores_G k) (cadastrelaw5_CastStores_L.getD 0 .skip)) n ⟨[(0, .pv (.typ (.l25 v.1))), (3, .pv (.int .i64 v.2))], []⟩ (nrmK UX (cadastrelaw5_CastStores_cfg k) 2 K) = cadastrelaw5_CastStores_l2 k (fun t2 => K .ret ⟨[(2, .pv (.bool t2))], []⟩) (K (.exit 0) ⟨[], []⟩) n v.1 v.2 :=
  iter_rec (X := UX) (fun v => ⟨[(0, .pv (.typ (.l25 v.1))), (3, .pv (.int .i64 v.2))], []⟩) (fun rec v => cadastrelaw5_CastStores_l2_b k (fun t2 => K .ret ⟨[(2, .pv (.bool t2))], []⟩) (K (.exit 0) ⟨[], []⟩) (fun l0 i3 => rec (l0, i3)) v.1 v.2) (fun n v => cadastrelaw5_CastStores_l2 k (fun t2 => K .ret ⟨[(2, .pv (.bool t2))], []⟩) (K (.exit 0) ⟨[], []⟩) n v.1 v.2) (fun n v => by kernel_rfl) (fun _ => rfl) (fun _ _ => rfl)
theorem cadastrelaw5_CastStores_l2_ok0 {ρ : Type} (k : Nat) : IterOK UX (cadastrelaw5_CastStores_cfg (ρ := ρ) k) (cadastrelaw5_CastStores_G k) (cadastrelaw5_CastStores_L.getD 0 .skip) 2 (cadastrelaw5_CastStores_l2_s k) := by
  intro s K r h
  obtain ⟨env, hp⟩ := s
  unfold cadastrelaw5_CastStores_l2_s at h
  replace h := popS_inv h; obtain ⟨v1, e2, rfl, h⟩ := h
  replace h := as_l25_inv h; obtain ⟨l0, rfl, h⟩ := h
  replace h := popS_inv h; obtain ⟨v3, e4, rfl, h⟩ := h
  replace h := asI_inv h; obtain ⟨i3, rfl, h⟩ := h
  replace h := popN_inv h; obtain ⟨rfl, h⟩ := h
  replace h := popN_inv h; obtain ⟨rfl, h⟩ := h
  exact ⟨k, (cadastrelaw5_CastStores_l2_eq0 k K k (l0, i3)).trans h⟩
theorem cadastrelaw5_CastStores_l5_eq1 {ρ : Type} (k : Nat) (K : Ex → St UU → Option ρ) : ∀ (n : Nat) (v : (List S25) × Int × Int), iterK UX (fun s => s.at (cadastrelaw5_CastStores_cfg (ρ := ρ) k).live (cadastrelaw5_CastStores_cfg (ρ := ρ) k).boxes (some 5)) (exec UX (cadastrelaw5_CastStores_cfg k) (cadastrelaw5_CastStores_G k) (cadastrelaw5_CastStores_L.getD 1 .skip)) n ⟨[(0, .pv (.typ (.l25 v.1))), (3, .pv (.int .i64 v.2.1)), (4, .pv (.int .i64 v.2.2))], []⟩ (nrmK UX (cadastrelaw5_CastStores_cfg k) 5 K) = cadastrelaw5_CastStores_l5 k (fun t2 => K .ret ⟨[(2, .pv (.bool t2))], []⟩) (fun l0 i3 => K (.exit 2) ⟨[(0, .pv (.typ (.l25 l0))), (3, .pv (.int .i64 i3))], []⟩) n v.1 v.2.1 v.2.2 :=
  iter_rec (X := UX) (fun v => ⟨[(0, .pv (.typ (.l25 v.1))), (3, .pv (.int .i64 v.2.1)), (4, .pv (.int .i64 v.2.2))], []⟩) (fun rec v => cadastrelaw5_CastStores_l5_b k (fun t2 => K .ret ⟨[(2, .pv (.bool t2))], []⟩) (fun l0 i3 => K (.exit 2) ⟨[(0, .pv (.typ (.l25 l0))), (3, .pv (.int .i64 i3))], []⟩) (fun l0 i3 t4 => rec (l0, i3, t4)) v.1 v.2.1 v.2.2) (fun n v => cadastrelaw5_CastStores_l5 k (fun t2 => K .ret ⟨[(2, .pv (.bool t2))], []⟩) (fun l0 i3 => K (.exit 2) ⟨[(0, .pv (.typ (.l25 l0))), (3, .pv (.int .i64 i3))], []⟩) n v.1 v.2.1 v.2.2) (fun n v => by kernel_rfl) (fun _ => rfl) (fun _ _ => rfl)
theorem cadastrelaw5_CastStores_l5_ok1 {ρ : Type} (k : Nat) : IterOK UX (cadastrelaw5_CastStores_cfg (ρ := ρ) k) (cadastrelaw5_CastStores_G k) (cadastrelaw5_CastStores_L.getD 1 .skip) 5 (cadastrelaw5_CastStores_l5_s k) := by
  intro s K r h
  obtain ⟨env, hp⟩ := s
  unfold cadastrelaw5_CastStores_l5_s at h
  replace h := popS_inv h; obtain ⟨v1, e2, rfl, h⟩ := h
  replace h := as_l25_inv h; obtain ⟨l0, rfl, h⟩ := h
  replace h := popS_inv h; obtain ⟨v3, e4, rfl, h⟩ := h
  replace h := asI_inv h; obtain ⟨i3, rfl, h⟩ := h
  replace h := popS_inv h; obtain ⟨v5, e6, rfl, h⟩ := h
  replace h := asI_inv h; obtain ⟨t4, rfl, h⟩ := h
  replace h := popN_inv h; obtain ⟨rfl, h⟩ := h
  replace h := popN_inv h; obtain ⟨rfl, h⟩ := h
  exact ⟨k, (cadastrelaw5_CastStores_l5_eq1 k K k (l0, i3, t4)).trans h⟩
theorem cadastrelaw5_CastStores_j4_eq0 {ρ : Type} (k : Nat) (K : Ex → St UU → Option ρ) (l0 : List S25) (i3 : Int) : exec UX (cadastrelaw5_CastStores_cfg k) (cadastrelaw5_CastStores_G k) (cadastrelaw5_CastStores_J.getD 0 .skip) ⟨[(0, .pv (.typ (.l25 l0))), (3, .pv (.int .i64 i3))], []⟩ (nrmK UX (cadastrelaw5_CastStores_cfg k) 4 K) = cadastrelaw5_CastStores_j4 k (fun t2 => K .ret ⟨[(2, .pv (.bool t2))], []⟩) (fun l0 i3 => K .nxt ⟨[(0, .pv (.typ (.l25 l0))), (3, .pv (.int .i64 i3))], []⟩) l0 i3 := by kernel_rfl
theorem cadastrelaw5_CastStores_j4_ok0 {ρ : Type} (k : Nat) : JoinOK UX (cadastrelaw5_CastStores_cfg (ρ := ρ) k) (cadastrelaw5_CastStores_G k) (cadastrelaw5_CastStores_J.getD 0 .skip) 4 (cadastrelaw5_CastStores_j4_s k) := by
  intro s K r h
  obtain ⟨env, hp⟩ := s
  unfold cadastrelaw5_CastStores_j4_s at h
  replace h := popS_inv h; obtain ⟨v1, e2, rfl, h⟩ := h
  replace h := as_l25_inv h; obtain ⟨l0, rfl, h⟩ := h
  replace h := popS_inv h; obtain ⟨v3, e4, rfl, h⟩ := h
  replace h := asI_inv h; obtain ⟨i3, rfl, h⟩ := h
  replace h := popN_inv h; obtain ⟨rfl, h⟩ := h
  replace h := popN_inv h; obtain ⟨rfl, h⟩ := h
  exact (cadastrelaw5_CastStores_j4_eq0 k K l0 i3).trans h
theorem cadastrelaw5_CastStores_j11_eq1 {ρ : Type} (k : Nat) (K : Ex → St UU → Option ρ) (l0 : List S25) (i3 : Int) (t4 : Int) (e6 : Int) (bad8 : Int) (v5 : S23) (want7 : S23) : exec UX (cadastrelaw5_CastStores_cfg k) (cadastrelaw5_CastStores_G k) (cadastrelaw5_CastStores_J.getD 1 .skip) ⟨[(0, .pv (.typ (.l25 l0))), (3, .pv (.int .i64 i3)), (4, .pv (.int .i64 t4)), (5, .ptr 5 0), (6, .pv (.int .i64 e6)), (7, .ptr 7 0), (8, .pv (.int .i64 bad8))], [(5, [.pv (.int .i64 v5.f0), .pv (.int .i64 v5.f1), .pv (.str v5.f2)]), (7, [.pv (.int .i64 want7.f0), .pv (.int .i64 want7.f1), .pv (.str want7.f2)])]⟩ (nrmK UX (cadastrelaw5_CastStores_cfg k) 11 K) = cadastrelaw5_CastStores_j11 k (fun t2 => K .ret ⟨[(2, .pv (.bool t2))], []⟩) (fun l0 i3 t4 => K .nxt ⟨[(0, .pv (.typ (.l25 l0))), (3, .pv (.int .i64 i3)), (4, .pv (.int .i64 t4))], []⟩) l0 i3 t4 e6 bad8 v5 want7 := by kernel_rfl
theorem cadastrelaw5_CastStores_j11_ok1 {ρ : Type} (k : Nat) : JoinOK UX (cadastrelaw5_CastStores_cfg (ρ := ρ) k) (cadastrelaw5_CastStores_G k) (cadastrelaw5_CastStores_J.getD 1 .skip) 11 (cadastrelaw5_CastStores_j11_s k) := by
  intro s K r h
  obtain ⟨env, hp⟩ := s
  unfold cadastrelaw5_CastStores_j11_s at h
  replace h := popS_inv h; obtain ⟨v1, e2, rfl, h⟩ := h
  replace h := as_l25_inv h; obtain ⟨l0, rfl, h⟩ := h
  replace h := popS_inv h; obtain ⟨v3, e4, rfl, h⟩ := h
  replace h := asI_inv h; obtain ⟨i3, rfl, h⟩ := h
  replace h := popS_inv h; obtain ⟨v5, e6, rfl, h⟩ := h
  replace h := asI_inv h; obtain ⟨t4, rfl, h⟩ := h
  replace h := popS_inv h; obtain ⟨v7, e8, rfl, h⟩ := h
  replace h := asP_inv h; obtain ⟨rfl, h⟩ := h
  replace h := popS_inv h; obtain ⟨v9, e10, rfl, h⟩ := h
  replace h := asI_inv h; obtain ⟨e6, rfl, h⟩ := h
  replace h := popS_inv h; obtain ⟨v11, e12, rfl, h⟩ := h
  replace h := asP_inv h; obtain ⟨rfl, h⟩ := h
  replace h := popS_inv h; obtain ⟨v13, e14, rfl, h⟩ := h
  replace h := asI_inv h; obtain ⟨bad8, rfl, h⟩ := h
  replace h := popN_inv h; obtain ⟨rfl, h⟩ := h
  replace h := popB_inv h; obtain ⟨c15, e16, rfl, h⟩ := h
  replace h := popA_inv h; obtain ⟨v17, c18, rfl, h⟩ := h
  replace h := asI_inv h; obtain ⟨z19, rfl, h⟩ := h
  replace h := popA_inv h; obtain ⟨v20, c21, rfl, h⟩ := h
  replace h := asI_inv h; obtain ⟨z22, rfl, h⟩ := h
  replace h := popA_inv h; obtain ⟨v23, c24, rfl, h⟩ := h
  replace h := asS_inv h; obtain ⟨z25, rfl, h⟩ := h
  replace h := popN_inv h; obtain ⟨rfl, h⟩ := h
  replace h := popB_inv h; obtain ⟨c26, e27, rfl, h⟩ := h
  replace h := popA_inv h; obtain ⟨v28, c29, rfl, h⟩ := h
  replace h := asI_inv h; obtain ⟨z30, rfl, h⟩ := h
  replace h := popA_inv h; obtain ⟨v31, c32, rfl, h⟩ := h
  replace h := asI_inv h; obtain ⟨z33, rfl, h⟩ := h
  replace h := popA_inv h; obtain ⟨v34, c35, rfl, h⟩ := h
  replace h := asS_inv h; obtain ⟨z36, rfl, h⟩ := h
  replace h := popN_inv h; obtain ⟨rfl, h⟩ := h
  replace h := popN_inv h; obtain ⟨rfl, h⟩ := h
  exact (cadastrelaw5_CastStores_j11_eq1 k K l0 i3 t4 e6 bad8 (⟨z19, z22, z25⟩ : S23) (⟨z30, z33, z36⟩ : S23)).trans h
theorem cadastrelaw5_CastStores_j10_eq2 {ρ : Type} (k : Nat) (K : Ex → St UU → Option ρ) (l0 : List S25) (i3 : Int) (t4 : Int) (e6 : Int) (v5 : S23) (want7 : S23) : exec UX (cadastrelaw5_CastStores_cfg k) (cadastrelaw5_CastStores_G k) (cadastrelaw5_CastStores_J.getD 2 .skip) ⟨[(0, .pv (.typ (.l25 l0))), (3, .pv (.int .i64 i3)), (4, .pv (.int .i64 t4)), (5, .ptr 5 0), (6, .pv (.int .i64 e6)), (7, .ptr 7 0)], [(5, [.pv (.int .i64 v5.f0), .pv (.int .i64 v5.f1), .pv (.str v5.f2)]), (7, [.pv (.int .i64 want7.f0), .pv (.int .i64 want7.f1), .pv (.str want7.f2)])]⟩ (nrmK UX (cadastrelaw5_CastStores_cfg k) 10 K) = cadastrelaw5_CastStores_j10 k (fun l0 i3 t4 e6 bad8 v5 want7 => K .nxt ⟨[(0, .pv (.typ (.l25 l0))), (3, .pv (.int .i64 i3)), (4, .pv (.int .i64 t4)), (5, .ptr 5 0), (6, .pv (.int .i64 e6)), (7, .ptr 7 0), (8, .pv (.int .i64 bad8))], [(5, [.pv (.int .i64 v5.f0), .pv (.int .i64 v5.f1), .pv (.str v5.f2)]), (7, [.pv (.int .i64 want7.f0), .pv (.int .i64 want7.f1), .pv (.str want7.f2)])]⟩) l0 i3 t4 e6 v5 want7 := by kernel_rfl
theorem cadastrelaw5_CastStores_j10_ok2 {ρ : Type} (k : Nat) : JoinOK UX (cadastrelaw5_CastStores_cfg (ρ := ρ) k) (cadastrelaw5_CastStores_G k) (cadastrelaw5_CastStores_J.getD 2 .skip) 10 (cadastrelaw5_CastStores_j10_s k) := by
  intro s K r h
  obtain ⟨env, hp⟩ := s
  unfold cadastrelaw5_CastStores_j10_s at h
  replace h := popS_inv h; obtain ⟨v1, e2, rfl, h⟩ := h
  replace h := as_l25_inv h; obtain ⟨l0, rfl, h⟩ := h
  replace h := popS_inv h; obtain ⟨v3, e4, rfl, h⟩ := h
  replace h := asI_inv h; obtain ⟨i3, rfl, h⟩ := h
  replace h := popS_inv h; obtain ⟨v5, e6, rfl, h⟩ := h
  replace h := asI_inv h; obtain ⟨t4, rfl, h⟩ := h
  replace h := popS_inv h; obtain ⟨v7, e8, rfl, h⟩ := h
  replace h := asP_inv h; obtain ⟨rfl, h⟩ := h
  replace h := popS_inv h; obtain ⟨v9, e10, rfl, h⟩ := h
  replace h := asI_inv h; obtain ⟨e6, rfl, h⟩ := h
  replace h := popS_inv h; obtain ⟨v11, e12, rfl, h⟩ := h
  replace h := asP_inv h; obtain ⟨rfl, h⟩ := h
  replace h := popN_inv h; obtain ⟨rfl, h⟩ := h
  replace h := popB_inv h; obtain ⟨c13, e14, rfl, h⟩ := h
  replace h := popA_inv h; obtain ⟨v15, c16, rfl, h⟩ := h
  replace h := asI_inv h; obtain ⟨z17, rfl, h⟩ := h
  replace h := popA_inv h; obtain ⟨v18, c19, rfl, h⟩ := h
  replace h := asI_inv h; obtain ⟨z20, rfl, h⟩ := h
  replace h := popA_inv h; obtain ⟨v21, c22, rfl, h⟩ := h
  replace h := asS_inv h; obtain ⟨z23, rfl, h⟩ := h
  replace h := popN_inv h; obtain ⟨rfl, h⟩ := h
  replace h := popB_inv h; obtain ⟨c24, e25, rfl, h⟩ := h
  replace h := popA_inv h; obtain ⟨v26, c27, rfl, h⟩ := h
  replace h := asI_inv h; obtain ⟨z28, rfl, h⟩ := h
  replace h := popA_inv h; obtain ⟨v29, c30, rfl, h⟩ := h
  replace h := asI_inv h; obtain ⟨z31, rfl, h⟩ := h
  replace h := popA_inv h; obtain ⟨v32, c33, rfl, h⟩ := h
  replace h := asS_inv h; obtain ⟨z34, rfl, h⟩ := h
  replace h := popN_inv h; obtain ⟨rfl, h⟩ := h
  replace h := popN_inv h; obtain ⟨rfl, h⟩ := h
  exact (cadastrelaw5_CastStores_j10_eq2 k K l0 i3 t4 e6 (⟨z17, z20, z23⟩ : S23) (⟨z28, z31, z34⟩ : S23)).trans h
theorem cadastrelaw5_CastStores_cok {ρ : Type} (k : Nat) : COK (cadastrelaw5_CastStores_cfg (ρ := ρ) k) (cadastrelaw5_CastStores_G k) cadastrelaw5_CastStores_code :=
  cok_of (tl := [(5, cadastrelaw5_CastStores_l5_s k), (2, cadastrelaw5_CastStores_l2_s k)]) (tj := [(10, cadastrelaw5_CastStores_j10_s k), (11, cadastrelaw5_CastStores_j11_s k), (4, cadastrelaw5_CastStores_j4_s k)]) (tb := []) rfl rfl rfl (all_nth 2 (by kernel_rfl) ⟨iter_case (by kernel_rfl) rfl (cadastrelaw5_CastStores_l5_ok1 k), iter_case (by kernel_rfl) rfl (cadastrelaw5_CastStores_l2_ok0 k), trivial⟩) (all_nth 3 (by kernel_rfl) ⟨join_case (by kernel_rfl) rfl (cadastrelaw5_CastStores_j10_ok2 k), join_case (by kernel_rfl) rfl (cadastrelaw5_CastStores_j11_ok1 k), join_case (by kernel_rfl) rfl (cadastrelaw5_CastStores_j4_ok0 k), trivial⟩) (fun p hp => by cases hp)
noncomputable def cadastrelaw5_CastStores_enc (r : Bool) : AV UU := .pv (.bool r)
noncomputable def cadastrelaw5_CastStores_dec (v : AV UU) (_ : List (List (AV UU))) : Option Bool :=
asB v fun r0 =>
some r0
theorem cadastrelaw5_CastStores_dec_enc (v : AV UU) (b : List (List (AV UU))) (r : Bool) (h : cadastrelaw5_CastStores_dec v b = some r) : v = cadastrelaw5_CastStores_enc r := by
  unfold cadastrelaw5_CastStores_dec at h
  replace h := asB_inv h; obtain ⟨r0, rfl, h⟩ := h
  cases h
  rfl
theorem cadastrelaw5_CastStores_eq (k : Nat) (l0 : List S25) : bodyK UX (cadastrelaw5_CastStores_cfg k) (cadastrelaw5_CastStores_G k) Tryd.f4 [.pv (.typ (.l25 l0))] [] cadastrelaw5_CastStores_dec = cadastrelaw5_CastStores k l0 := by kernel_rfl
theorem cadastrelaw5_CastStores_con (k : Nat) (l0 : List S25) (r : Bool) (h : cadastrelaw5_CastStores k l0 = some r) : Con (X := UX) Tryd.prog 4 [.pv (.typ (.l25 l0))] [] (cadastrelaw5_CastStores_enc r) [] :=
  con_of_body xok tok Tryd.func4 cadastrelaw5_CastStores_body (cadastrelaw5_CastStores_gok k) rfl (cadastrelaw5_CastStores_cok k) (of_decide_eq_true (by kernel_rfl)) cadastrelaw5_CastStores_dec_enc ((cadastrelaw5_CastStores_eq k l0).trans h)
noncomputable def cadastrelaw5_CastStores_an {ρ : Type} (k : Nat) : An UX ρ := fun args bx K =>
popA args fun v1 a2 =>
as_l25 v1 fun l0 =>
popN a2 <|
popN bx <|
(cadastrelaw5_CastStores k l0).bind fun r => K (cadastrelaw5_CastStores_enc r) []
theorem cadastrelaw5_CastStores_ok {ρ : Type} (k : Nat) : AnsOK Tryd.prog 4 (cadastrelaw5_CastStores_an (ρ := ρ) k) := by
  intro args bx K r h
  unfold cadastrelaw5_CastStores_an at h
  replace h := popA_inv h; obtain ⟨v1, a2, rfl, h⟩ := h
  replace h := as_l25_inv h; obtain ⟨l0, rfl, h⟩ := h
  replace h := popN_inv h; obtain ⟨rfl, h⟩ := h
  replace h := popN_inv h; obtain ⟨rfl, h⟩ := h
  replace h := bind_inv h
  obtain ⟨x, hx, h⟩ := h
  exact ⟨there_of Tryd.func4 (by kernel_rfl) cadastrelaw5_CastStores_body, _, _, h, cadastrelaw5_CastStores_con k l0 x hx⟩

/-! cadastre/value.In -/
noncomputable def value_In_code : Code := match Tryd.f34.body with | some c => c | none => .skip
theorem value_In_body : Tryd.f34.body = some value_In_code := by kernel_rfl
noncomputable def value_In_G {ρ : Type} (k : Nat) : Ans UX ρ := gnil
theorem value_In_gok {ρ : Type} (k : Nat) : GOK Tryd.prog (value_In_G (ρ := ρ) k) := gok_nil
noncomputable def value_In_cfg {ρ : Type} (k : Nat) : Cfg UX ρ where
  live i := (assoc [(0, [0, 1]), (1, [1, 2]), (2, [2, 5]), (3, [2]), (4, [2, 5]), (5, [2]), (6, [2, 5]), (7, [2]), (8, [])] i).getD []
  boxes i := (assoc [(0, []), (1, [2]), (2, [2]), (3, [2]), (4, [2]), (5, [2]), (6, [2]), (7, [2]), (8, [])] i).getD []
  tk i := (assoc [] i).getD []
  n := 36
  labelR l := (assoc [] l).getD 0
  loops := assoc []
  labels := assoc []
  joins := assoc []
  xl i e := match e with
    | .nxt => assoc [] i
    | .ret => assoc [] i
    | .exit j => (assoc [] i).bind fun l => assoc l j
    | .goto j => (assoc [] i).bind fun l => assoc l j
noncomputable def value_In_L : List Code := selI [] (loopsOf value_In_code)
noncomputable def value_In_J : List Code := selI [] (joinsOf value_In_code)
noncomputable def value_In_S : List Code := scopesOf value_In_code
theorem value_In_cok {ρ : Type} (k : Nat) : COK (value_In_cfg (ρ := ρ) k) (value_In_G k) value_In_code :=
  cok_of (tl := []) (tj := []) (tb := []) rfl rfl rfl (nil_all (by kernel_rfl)) (nil_all (by kernel_rfl)) (fun p hp => by cases hp)
noncomputable def value_In_enc (r : Bool) : AV UU := .pv (.bool r)
noncomputable def value_In_dec (v : AV UU) (_ : List (List (AV UU))) : Option Bool :=
asB v fun r0 =>
some r0
theorem value_In_dec_enc (v : AV UU) (b : List (List (AV UU))) (r : Bool) (h : value_In_dec v b = some r) : v = value_In_enc r := by
  unfold value_In_dec at h
  replace h := asB_inv h; obtain ⟨r0, rfl, h⟩ := h
  cases h
  rfl
theorem value_In_eq (k : Nat) (v0 : S23) (t1 : Int) : bodyK UX (value_In_cfg k) (value_In_G k) Tryd.f34 [.pv (.typ (.s23 v0)), .pv (.int .i64 t1)] [] value_In_dec = value_In k v0 t1 := by kernel_rfl
theorem value_In_con (k : Nat) (v0 : S23) (t1 : Int) (r : Bool) (h : value_In k v0 t1 = some r) : Con (X := UX) Tryd.prog 34 [.pv (.typ (.s23 v0)), .pv (.int .i64 t1)] [] (value_In_enc r) [] :=
  con_of_body xok tok Tryd.func34 value_In_body (value_In_gok k) rfl (value_In_cok k) (of_decide_eq_true (by kernel_rfl)) value_In_dec_enc ((value_In_eq k v0 t1).trans h)
noncomputable def value_In_an {ρ : Type} (k : Nat) : An UX ρ := fun args bx K =>
popA args fun v1 a2 =>
as_s23 v1 fun v0 =>
popA a2 fun v3 a4 =>
asI .i64 v3 fun t1 =>
popN a4 <|
popN bx <|
(value_In k v0 t1).bind fun r => K (value_In_enc r) []
theorem value_In_ok {ρ : Type} (k : Nat) : AnsOK Tryd.prog 34 (value_In_an (ρ := ρ) k) := by
  intro args bx K r h
  unfold value_In_an at h
  replace h := popA_inv h; obtain ⟨v1, a2, rfl, h⟩ := h
  replace h := as_s23_inv h; obtain ⟨v0, rfl, h⟩ := h
  replace h := popA_inv h; obtain ⟨v3, a4, rfl, h⟩ := h
  replace h := asI_inv h; obtain ⟨t1, rfl, h⟩ := h
  replace h := popN_inv h; obtain ⟨rfl, h⟩ := h
  replace h := popN_inv h; obtain ⟨rfl, h⟩ := h
  replace h := bind_inv h
  obtain ⟨x, hx, h⟩ := h
  exact ⟨there_of Tryd.func34 (by kernel_rfl) value_In_body, _, _, h, value_In_con k v0 t1 x hx⟩

/-! cadastre/value.Fits -/
noncomputable def value_Fits_code : Code := match Tryd.f16.body with | some c => c | none => .skip
theorem value_Fits_body : Tryd.f16.body = some value_Fits_code := by kernel_rfl
noncomputable def value_Fits_G {ρ : Type} (k : Nat) : Ans UX ρ := gk 31 (value_Good_an k) (gk 32 (value_Type_an k) (gk 34 (value_In_an k) (gnil)))
theorem value_Fits_gok {ρ : Type} (k : Nat) : GOK Tryd.prog (value_Fits_G (ρ := ρ) k) := gok_cons (value_Good_ok k) (gok_cons (value_Type_ok k) (gok_cons (value_In_ok k) (gok_nil)))
noncomputable def value_Fits_cfg {ρ : Type} (k : Nat) : Cfg UX ρ where
  live i := (assoc [(0, [0, 1]), (1, [1, 2]), (2, []), (3, [1, 2])] i).getD []
  boxes i := (assoc [(0, []), (1, [2]), (2, []), (3, [2])] i).getD []
  tk i := (assoc [] i).getD []
  n := 17
  labelR l := (assoc [] l).getD 0
  loops := assoc []
  labels := assoc []
  joins := assoc []
  xl i e := match e with
    | .nxt => assoc [] i
    | .ret => assoc [] i
    | .exit j => (assoc [] i).bind fun l => assoc l j
    | .goto j => (assoc [] i).bind fun l => assoc l j
noncomputable def value_Fits_L : List Code := selI [] (loopsOf value_Fits_code)
noncomputable def value_Fits_J : List Code := selI [] (joinsOf value_Fits_code)
noncomputable def value_Fits_S : List Code := scopesOf value_Fits_code
theorem value_Fits_cok {ρ : Type} (k : Nat) : COK (value_Fits_cfg (ρ := ρ) k) (value_Fits_G k) value_Fits_code :=
  cok_of (tl := []) (tj := []) (tb := []) rfl rfl rfl (nil_all (by kernel_rfl)) (nil_all (by kernel_rfl)) (fun p hp => by cases hp)
noncomputable def value_Fits_enc (r : Bool × Int) : AV UU := .pv (.tup [.bool r.1, .int .i64 r.2])
noncomputable def value_Fits_dec (v : AV UU) (_ : List (List (AV UU))) : Option (Bool × Int) :=
asT v fun q1 =>
popA q1 fun p2 q3 =>
asB (.pv p2) fun r0 =>
popA q3 fun p4 q5 =>
asI .i64 (.pv p4) fun r1 =>
popN q5 <|
some (r0, r1)
theorem value_Fits_dec_enc (v : AV UU) (b : List (List (AV UU))) (r : Bool × Int) (h : value_Fits_dec v b = some r) : v = value_Fits_enc r := by
  unfold value_Fits_dec at h
  replace h := asT_inv h; obtain ⟨q1, rfl, h⟩ := h
  replace h := popA_inv h; obtain ⟨p2, q3, rfl, h⟩ := h
  replace h := asB_inv h; obtain ⟨r0, e, h⟩ := h; cases e
  replace h := popA_inv h; obtain ⟨p4, q5, rfl, h⟩ := h
  replace h := asI_inv h; obtain ⟨r1, e, h⟩ := h; cases e
  replace h := popN_inv h; obtain ⟨rfl, h⟩ := h
  cases h
  rfl
theorem value_Fits_eq (k : Nat) (v0 : S23) (t1 : Int) : bodyK UX (value_Fits_cfg k) (value_Fits_G k) Tryd.f16 [.pv (.typ (.s23 v0)), .pv (.int .i64 t1)] [] value_Fits_dec = value_Fits k v0 t1 := by kernel_rfl
theorem value_Fits_con (k : Nat) (v0 : S23) (t1 : Int) (r : Bool × Int) (h : value_Fits k v0 t1 = some r) : Con (X := UX) Tryd.prog 16 [.pv (.typ (.s23 v0)), .pv (.int .i64 t1)] [] (value_Fits_enc r) [] :=
  con_of_body xok tok Tryd.func16 value_Fits_body (value_Fits_gok k) rfl (value_Fits_cok k) (of_decide_eq_true (by kernel_rfl)) value_Fits_dec_enc ((value_Fits_eq k v0 t1).trans h)
noncomputable def value_Fits_an {ρ : Type} (k : Nat) : An UX ρ := fun args bx K =>
popA args fun v1 a2 =>
as_s23 v1 fun v0 =>
popA a2 fun v3 a4 =>
asI .i64 v3 fun t1 =>
popN a4 <|
popN bx <|
(value_Fits k v0 t1).bind fun r => K (value_Fits_enc r) []
theorem value_Fits_ok {ρ : Type} (k : Nat) : AnsOK Tryd.prog 16 (value_Fits_an (ρ := ρ) k) := by
  intro args bx K r h
  unfold value_Fits_an at h
  replace h := popA_inv h; obtain ⟨v1, a2, rfl, h⟩ := h
  replace h := as_s23_inv h; obtain ⟨v0, rfl, h⟩ := h
  replace h := popA_inv h; obtain ⟨v3, a4, rfl, h⟩ := h
  replace h := asI_inv h; obtain ⟨t1, rfl, h⟩ := h
  replace h := popN_inv h; obtain ⟨rfl, h⟩ := h
  replace h := popN_inv h; obtain ⟨rfl, h⟩ := h
  replace h := bind_inv h
  obtain ⟨x, hx, h⟩ := h
  exact ⟨there_of Tryd.func16 (by kernel_rfl) value_Fits_body, _, _, h, value_Fits_con k v0 t1 x hx⟩

/-! cadastre/cadastrelaw5.CastBack -/
noncomputable def cadastrelaw5_CastBack_code : Code := match Tryd.f5.body with | some c => c | none => .skip
theorem cadastrelaw5_CastBack_body : Tryd.f5.body = some cadastrelaw5_CastBack_code := by kernel_rfl
noncomputable def cadastrelaw5_CastBack_G {ρ : Type} (k : Nat) : Ans UX ρ := gk 14 (cast_Store_an k) (gk 10 (cadastrelaw5_num_an k) (gk 16 (value_Fits_an k) (gk 17 (arith_Text_an k) (gk 8 (cast_Int_an k) (gk 15 (cadastrelaw5_wakes_an k) (gnil))))))
theorem cadastrelaw5_CastBack_gok {ρ : Type} (k : Nat) : GOK Tryd.prog (cadastrelaw5_CastBack_G (ρ := ρ) k) := gok_cons (cast_Store_ok k) (gok_cons (cadastrelaw5_num_ok k) (gok_cons (value_Fits_ok k) (gok_cons (arith_Text_ok k) (gok_cons (cast_Int_ok k) (gok_cons (cadastrelaw5_wakes_ok k) (gok_nil))))))
noncomputable def cadastrelaw5_CastBack_j17_s {ρ : Type} (k : Nat) : Run UX ρ := fun s K =>
popS 0 s.env fun v1 e2 =>
as_l25 v1 fun l0 =>
popS 3 e2 fun v3 e4 =>
asI .i64 v3 fun i3 =>
popS 4 e4 fun v5 e6 =>
asP 4 0 v5 <|
popS 13 e6 fun v7 e8 =>
asP 13 0 v7 <|
popN e8 <|
popB 4 s.hp fun c9 e10 =>
popA c9 fun v11 c12 =>
asS v11 fun z13 =>
popA c12 fun v14 c15 =>
asI .i64 v14 fun z16 =>
popA c15 fun v17 c18 =>
asI .i64 v17 fun z19 =>
popA c18 fun v20 c21 =>
asS v20 fun z22 =>
popA c21 fun v23 c24 =>
asI .i64 v23 fun z25 =>
popN c24 <|
popB 13 e10 fun c26 e27 =>
popA c26 fun v28 c29 =>
asI .i64 v28 fun z30 =>
popA c29 fun v31 c32 =>
asI .i64 v31 fun z33 =>
popA c32 fun v34 c35 =>
asS v34 fun z36 =>
popN c35 <|
popN e27 <|
cadastrelaw5_CastBack_j17 k (fun t2 => K .ret ⟨[(2, .pv (.bool t2))], []⟩) (fun l0 i3 => K .nxt ⟨[(0, .pv (.typ (.l25 l0))), (3, .pv (.int .i64 i3))], []⟩) l0 i3 (⟨z13, (⟨z16, z19, z22⟩ : S23), z25⟩ : S25) (⟨z30, z33, z36⟩ : S23)
noncomputable def cadastrelaw5_CastBack_j14_s {ρ : Type} (k : Nat) : Run UX ρ := fun s K =>
popS 0 s.env fun v1 e2 =>
as_l25 v1 fun l0 =>
popS 3 e2 fun v3 e4 =>
asI .i64 v3 fun i3 =>
popS 4 e4 fun v5 e6 =>
asP 4 0 v5 <|
popS 13 e6 fun v7 e8 =>
asP 13 0 v7 <|
popN e8 <|
popB 4 s.hp fun c9 e10 =>
popA c9 fun v11 c12 =>
asS v11 fun z13 =>
popA c12 fun v14 c15 =>
asI .i64 v14 fun z16 =>
popA c15 fun v17 c18 =>
asI .i64 v17 fun z19 =>
popA c18 fun v20 c21 =>
asS v20 fun z22 =>
popA c21 fun v23 c24 =>
asI .i64 v23 fun z25 =>
popN c24 <|
popB 13 e10 fun c26 e27 =>
popA c26 fun v28 c29 =>
asI .i64 v28 fun z30 =>
popA c29 fun v31 c32 =>
asI .i64 v31 fun z33 =>
popA c32 fun v34 c35 =>
asS v34 fun z36 =>
popN c35 <|
popN e27 <|
cadastrelaw5_CastBack_j14 k (fun t2 => K .ret ⟨[(2, .pv (.bool t2))], []⟩) (fun l0 i3 => K .nxt ⟨[(0, .pv (.typ (.l25 l0))), (3, .pv (.int .i64 i3))], []⟩) l0 i3 (⟨z13, (⟨z16, z19, z22⟩ : S23), z25⟩ : S25) (⟨z30, z33, z36⟩ : S23)
noncomputable def cadastrelaw5_CastBack_j12_s {ρ : Type} (k : Nat) : Run UX ρ := fun s K =>
popS 0 s.env fun v1 e2 =>
as_l25 v1 fun l0 =>
popS 3 e2 fun v3 e4 =>
asI .i64 v3 fun i3 =>
popS 4 e4 fun v5 e6 =>
asP 4 0 v5 <|
popN e6 <|
popB 4 s.hp fun c7 e8 =>
popA c7 fun v9 c10 =>
asS v9 fun z11 =>
popA c10 fun v12 c13 =>
asI .i64 v12 fun z14 =>
popA c13 fun v15 c16 =>
asI .i64 v15 fun z17 =>
popA c16 fun v18 c19 =>
asS v18 fun z20 =>
popA c19 fun v21 c22 =>
asI .i64 v21 fun z23 =>
popN c22 <|
popN e8 <|
cadastrelaw5_CastBack_j12 k (fun t2 => K .ret ⟨[(2, .pv (.bool t2))], []⟩) (fun l0 i3 => K .nxt ⟨[(0, .pv (.typ (.l25 l0))), (3, .pv (.int .i64 i3))], []⟩) l0 i3 (⟨z11, (⟨z14, z17, z20⟩ : S23), z23⟩ : S25)
noncomputable def cadastrelaw5_CastBack_j4_s {ρ : Type} (k : Nat) : Run UX ρ := fun s K =>
popS 0 s.env fun v1 e2 =>
as_l25 v1 fun l0 =>
popS 3 e2 fun v3 e4 =>
asI .i64 v3 fun i3 =>
popN e4 <|
popN s.hp <|
cadastrelaw5_CastBack_j4 k (fun t2 => K .ret ⟨[(2, .pv (.bool t2))], []⟩) (fun l0 i3 => K .nxt ⟨[(0, .pv (.typ (.l25 l0))), (3, .pv (.int .i64 i3))], []⟩) l0 i3
noncomputable def cadastrelaw5_CastBack_l2_s {ρ : Type} (k : Nat) : Run UX ρ := fun s K =>
popS 0 s.env fun v1 e2 =>
as_l25 v1 fun l0 =>
popS 3 e2 fun v3 e4 =>
asI .i64 v3 fun i3 =>
popN e4 <|
popN s.hp <|
cadastrelaw5_CastBack_l2 k (fun t2 => K .ret ⟨[(2, .pv (.bool t2))], []⟩) (K (.exit 0) ⟨[], []⟩) k l0 i3
noncomputable def cadastrelaw5_CastBack_cfg {ρ : Type} (k : Nat) : Cfg UX ρ where
  live i := (assoc [(0, [0]), (1, [0]), (2, [0, 3]), (3, [0, 3]), (4, [0, 3]), (5, [0, 3, 4]), (6, [0, 3, 4, 5, 6]), (7, [0, 3, 4, 5]), (8, [0, 3, 4, 5, 7, 8]), (9, [0, 3, 4, 5, 7, 8, 9, 10]), (10, [0, 3, 4, 5, 7, 8, 9, 10, 11, 12]), (11, []), (12, [0, 3, 4]), (13, [0, 3, 4, 13, 14]), (14, [0, 3, 4, 13]), (15, [0, 3, 4, 13, 15, 16]), (16, []), (17, [0, 3, 4, 13]), (18, [0, 3, 4, 17, 18]), (19, []), (20, [])] i).getD []
  boxes i := (assoc [(0, []), (1, []), (2, []), (3, []), (4, []), (5, [4]), (6, [4, 5]), (7, [4, 5]), (8, [4, 5]), (9, [4, 5, 9]), (10, [4, 5, 9]), (11, []), (12, [4]), (13, [4, 13]), (14, [4, 13]), (15, [4, 13]), (16, []), (17, [4, 13]), (18, [4, 17]), (19, []), (20, [])] i).getD []
  tk i := (assoc [] i).getD []
  n := 143
  labelR l := (assoc [] l).getD 0
  loops := assoc [(2, cadastrelaw5_CastBack_l2_s k)]
  labels := assoc []
  joins := assoc [(17, cadastrelaw5_CastBack_j17_s k), (14, cadastrelaw5_CastBack_j14_s k), (12, cadastrelaw5_CastBack_j12_s k), (4, cadastrelaw5_CastBack_j4_s k)]
  xl i e := match e with
    | .nxt => assoc [(17, ([0, 3], [])), (14, ([0, 3], [])), (12, ([0, 3], [])), (4, ([0, 3], []))] i
    | .ret => assoc [(17, ([2], [])), (14, ([2], [])), (12, ([2], [])), (4, ([2], [])), (2, ([2], []))] i
    | .exit j => (assoc [(2, [(0, ([], []))])] i).bind fun l => assoc l j
    | .goto j => (assoc [] i).bind fun l => assoc l j
noncomputable def cadastrelaw5_CastBack_L : List Code := selI [2] (loopsOf cadastrelaw5_CastBack_code)
noncomputable def cadastrelaw5_CastBack_J : List Code := selI [17, 14, 12, 4] (joinsOf cadastrelaw5_CastBack_code)
noncomputable def cadastrelaw5_CastBack_S : List Code := scopesOf cadastrelaw5_CastBack_code
theorem cadastrelaw5_CastBack_l2_eq0 {ρ : Type} (k : Nat) (K : Ex → St UU → Option ρ) : ∀ (n : Nat) (v : (List S25) × Int), iterK UX (fun s => s.at (cadastrelaw5_CastBack_cfg (ρ := ρ) k).live (cadastrelaw5_CastBack_cfg (ρ := ρ) k).boxes (some 2)) (exec UX (cadastrelaw5_CastBack_cfg k) (cadastrelaw5_CastBack_G k) (cadastrelaw5_CastBack_L.getD 0 .skip)) n ⟨[(0, .pv (.typ (.l25 v.1))), (3, .pv (.int .i64 v.2))], []⟩ (nrmK UX (cadastrelaw5_CastBack_cfg k) 2 K) = cadastrelaw5_CastBack_l2 k (fun t2 => K .ret ⟨[(2, .pv (.bool t2))], []⟩) (K (.exit 0) ⟨[], []⟩) n v.1 v.2 :=
  iter_rec (X := UX) (fun v => ⟨[(0, .pv (.typ (.l25 v.1))), (3, .pv (.int .i64 v.2))], []⟩) (fun rec v => cadastrelaw5_CastBack_l2_b k (fun t2 => K .ret ⟨[(2, .pv (.bool t2))], []⟩) (K (.exit 0) ⟨[], []⟩) (fun l0 i3 => rec (l0, i3)) v.1 v.2) (fun n v => cadastrelaw5_CastBack_l2 k (fun t2 => K .ret ⟨[(2, .pv (.bool t2))], []⟩) (K (.exit 0) ⟨[], []⟩) n v.1 v.2) (fun n v => by kernel_rfl) (fun _ => rfl) (fun _ _ => rfl)
theorem cadastrelaw5_CastBack_l2_ok0 {ρ : Type} (k : Nat) : IterOK UX (cadastrelaw5_CastBack_cfg (ρ := ρ) k) (cadastrelaw5_CastBack_G k) (cadastrelaw5_CastBack_L.getD 0 .skip) 2 (cadastrelaw5_CastBack_l2_s k) := by
  intro s K r h
  obtain ⟨env, hp⟩ := s
  unfold cadastrelaw5_CastBack_l2_s at h
  replace h := popS_inv h; obtain ⟨v1, e2, rfl, h⟩ := h
  replace h := as_l25_inv h; obtain ⟨l0, rfl, h⟩ := h
  replace h := popS_inv h; obtain ⟨v3, e4, rfl, h⟩ := h
  replace h := asI_inv h; obtain ⟨i3, rfl, h⟩ := h
  replace h := popN_inv h; obtain ⟨rfl, h⟩ := h
  replace h := popN_inv h; obtain ⟨rfl, h⟩ := h
  exact ⟨k, (cadastrelaw5_CastBack_l2_eq0 k K k (l0, i3)).trans h⟩
theorem cadastrelaw5_CastBack_j4_eq0 {ρ : Type} (k : Nat) (K : Ex → St UU → Option ρ) (l0 : List S25) (i3 : Int) : exec UX (cadastrelaw5_CastBack_cfg k) (cadastrelaw5_CastBack_G k) (cadastrelaw5_CastBack_J.getD 0 .skip) ⟨[(0, .pv (.typ (.l25 l0))), (3, .pv (.int .i64 i3))], []⟩ (nrmK UX (cadastrelaw5_CastBack_cfg k) 4 K) = cadastrelaw5_CastBack_j4 k (fun t2 => K .ret ⟨[(2, .pv (.bool t2))], []⟩) (fun l0 i3 => K .nxt ⟨[(0, .pv (.typ (.l25 l0))), (3, .pv (.int .i64 i3))], []⟩) l0 i3 := by kernel_rfl
theorem cadastrelaw5_CastBack_j4_ok0 {ρ : Type} (k : Nat) : JoinOK UX (cadastrelaw5_CastBack_cfg (ρ := ρ) k) (cadastrelaw5_CastBack_G k) (cadastrelaw5_CastBack_J.getD 0 .skip) 4 (cadastrelaw5_CastBack_j4_s k) := by
  intro s K r h
  obtain ⟨env, hp⟩ := s
  unfold cadastrelaw5_CastBack_j4_s at h
  replace h := popS_inv h; obtain ⟨v1, e2, rfl, h⟩ := h
  replace h := as_l25_inv h; obtain ⟨l0, rfl, h⟩ := h
  replace h := popS_inv h; obtain ⟨v3, e4, rfl, h⟩ := h
  replace h := asI_inv h; obtain ⟨i3, rfl, h⟩ := h
  replace h := popN_inv h; obtain ⟨rfl, h⟩ := h
  replace h := popN_inv h; obtain ⟨rfl, h⟩ := h
  exact (cadastrelaw5_CastBack_j4_eq0 k K l0 i3).trans h
theorem cadastrelaw5_CastBack_j12_eq1 {ρ : Type} (k : Nat) (K : Ex → St UU → Option ρ) (l0 : List S25) (i3 : Int) (p4 : S25) : exec UX (cadastrelaw5_CastBack_cfg k) (cadastrelaw5_CastBack_G k) (cadastrelaw5_CastBack_J.getD 1 .skip) ⟨[(0, .pv (.typ (.l25 l0))), (3, .pv (.int .i64 i3)), (4, .ptr 4 0)], [(4, [.pv (.str p4.f0), .pv (.int .i64 p4.f1.f0), .pv (.int .i64 p4.f1.f1), .pv (.str p4.f1.f2), .pv (.int .i64 p4.f2)])]⟩ (nrmK UX (cadastrelaw5_CastBack_cfg k) 12 K) = cadastrelaw5_CastBack_j12 k (fun t2 => K .ret ⟨[(2, .pv (.bool t2))], []⟩) (fun l0 i3 => K .nxt ⟨[(0, .pv (.typ (.l25 l0))), (3, .pv (.int .i64 i3))], []⟩) l0 i3 p4 := by kernel_rfl
theorem cadastrelaw5_CastBack_j12_ok1 {ρ : Type} (k : Nat) : JoinOK UX (cadastrelaw5_CastBack_cfg (ρ := ρ) k) (cadastrelaw5_CastBack_G k) (cadastrelaw5_CastBack_J.getD 1 .skip) 12 (cadastrelaw5_CastBack_j12_s k) := by
  intro s K r h
  obtain ⟨env, hp⟩ := s
  unfold cadastrelaw5_CastBack_j12_s at h
  replace h := popS_inv h; obtain ⟨v1, e2, rfl, h⟩ := h
  replace h := as_l25_inv h; obtain ⟨l0, rfl, h⟩ := h
  replace h := popS_inv h; obtain ⟨v3, e4, rfl, h⟩ := h
  replace h := asI_inv h; obtain ⟨i3, rfl, h⟩ := h
  replace h := popS_inv h; obtain ⟨v5, e6, rfl, h⟩ := h
  replace h := asP_inv h; obtain ⟨rfl, h⟩ := h
  replace h := popN_inv h; obtain ⟨rfl, h⟩ := h
  replace h := popB_inv h; obtain ⟨c7, e8, rfl, h⟩ := h
  replace h := popA_inv h; obtain ⟨v9, c10, rfl, h⟩ := h
  replace h := asS_inv h; obtain ⟨z11, rfl, h⟩ := h
  replace h := popA_inv h; obtain ⟨v12, c13, rfl, h⟩ := h
  replace h := asI_inv h; obtain ⟨z14, rfl, h⟩ := h
  replace h := popA_inv h; obtain ⟨v15, c16, rfl, h⟩ := h
  replace h := asI_inv h; obtain ⟨z17, rfl, h⟩ := h
  replace h := popA_inv h; obtain ⟨v18, c19, rfl, h⟩ := h
  replace h := asS_inv h; obtain ⟨z20, rfl, h⟩ := h
  replace h := popA_inv h; obtain ⟨v21, c22, rfl, h⟩ := h
  replace h := asI_inv h; obtain ⟨z23, rfl, h⟩ := h
  replace h := popN_inv h; obtain ⟨rfl, h⟩ := h
  replace h := popN_inv h; obtain ⟨rfl, h⟩ := h
  exact (cadastrelaw5_CastBack_j12_eq1 k K l0 i3 (⟨z11, (⟨z14, z17, z20⟩ : S23), z23⟩ : S25)).trans h
theorem cadastrelaw5_CastBack_j14_eq2 {ρ : Type} (k : Nat) (K : Ex → St UU → Option ρ) (l0 : List S25) (i3 : Int) (p4 : S25) (t13 : S23) : exec UX (cadastrelaw5_CastBack_cfg k) (cadastrelaw5_CastBack_G k) (cadastrelaw5_CastBack_J.getD 2 .skip) ⟨[(0, .pv (.typ (.l25 l0))), (3, .pv (.int .i64 i3)), (4, .ptr 4 0), (13, .ptr 13 0)], [(4, [.pv (.str p4.f0), .pv (.int .i64 p4.f1.f0), .pv (.int .i64 p4.f1.f1), .pv (.str p4.f1.f2), .pv (.int .i64 p4.f2)]), (13, [.pv (.int .i64 t13.f0), .pv (.int .i64 t13.f1), .pv (.str t13.f2)])]⟩ (nrmK UX (cadastrelaw5_CastBack_cfg k) 14 K) = cadastrelaw5_CastBack_j14 k (fun t2 => K .ret ⟨[(2, .pv (.bool t2))], []⟩) (fun l0 i3 => K .nxt ⟨[(0, .pv (.typ (.l25 l0))), (3, .pv (.int .i64 i3))], []⟩) l0 i3 p4 t13 := by kernel_rfl
theorem cadastrelaw5_CastBack_j14_ok2 {ρ : Type} (k : Nat) : JoinOK UX (cadastrelaw5_CastBack_cfg (ρ := ρ) k) (cadastrelaw5_CastBack_G k) (cadastrelaw5_CastBack_J.getD 2 .skip) 14 (cadastrelaw5_CastBack_j14_s k) := by
  intro s K r h
  obtain ⟨env, hp⟩ := s
  unfold cadastrelaw5_CastBack_j14_s at h
  replace h := popS_inv h; obtain ⟨v1, e2, rfl, h⟩ := h
  replace h := as_l25_inv h; obtain ⟨l0, rfl, h⟩ := h
  replace h := popS_inv h; obtain ⟨v3, e4, rfl, h⟩ := h
  replace h := asI_inv h; obtain ⟨i3, rfl, h⟩ := h
  replace h := popS_inv h; obtain ⟨v5, e6, rfl, h⟩ := h
  replace h := asP_inv h; obtain ⟨rfl, h⟩ := h
  replace h := popS_inv h; obtain ⟨v7, e8, rfl, h⟩ := h
  replace h := asP_inv h; obtain ⟨rfl, h⟩ := h
  replace h := popN_inv h; obtain ⟨rfl, h⟩ := h
  replace h := popB_inv h; obtain ⟨c9, e10, rfl, h⟩ := h
  replace h := popA_inv h; obtain ⟨v11, c12, rfl, h⟩ := h
  replace h := asS_inv h; obtain ⟨z13, rfl, h⟩ := h
  replace h := popA_inv h; obtain ⟨v14, c15, rfl, h⟩ := h
  replace h := asI_inv h; obtain ⟨z16, rfl, h⟩ := h
  replace h := popA_inv h; obtain ⟨v17, c18, rfl, h⟩ := h
  replace h := asI_inv h; obtain ⟨z19, rfl, h⟩ := h
  replace h := popA_inv h; obtain ⟨v20, c21, rfl, h⟩ := h
  replace h := asS_inv h; obtain ⟨z22, rfl, h⟩ := h
  replace h := popA_inv h; obtain ⟨v23, c24, rfl, h⟩ := h
  replace h := asI_inv h; obtain ⟨z25, rfl, h⟩ := h
  replace h := popN_inv h; obtain ⟨rfl, h⟩ := h
  replace h := popB_inv h; obtain ⟨c26, e27, rfl, h⟩ := h
  replace h := popA_inv h; obtain ⟨v28, c29, rfl, h⟩ := h
  replace h := asI_inv h; obtain ⟨z30, rfl, h⟩ := h
  replace h := popA_inv h; obtain ⟨v31, c32, rfl, h⟩ := h
  replace h := asI_inv h; obtain ⟨z33, rfl, h⟩ := h
  replace h := popA_inv h; obtain ⟨v34, c35, rfl, h⟩ := h
  replace h := asS_inv h; obtain ⟨z36, rfl, h⟩ := h
  replace h := popN_inv h; obtain ⟨rfl, h⟩ := h
  replace h := popN_inv h; obtain ⟨rfl, h⟩ := h
  exact (cadastrelaw5_CastBack_j14_eq2 k K l0 i3 (⟨z13, (⟨z16, z19, z22⟩ : S23), z25⟩ : S25) (⟨z30, z33, z36⟩ : S23)).trans h
theorem cadastrelaw5_CastBack_j17_eq3 {ρ : Type} (k : Nat) (K : Ex → St UU → Option ρ) (l0 : List S25) (i3 : Int) (p4 : S25) (t13 : S23) : exec UX (cadastrelaw5_CastBack_cfg k) (cadastrelaw5_CastBack_G k) (cadastrelaw5_CastBack_J.getD 3 .skip) ⟨[(0, .pv (.typ (.l25 l0))), (3, .pv (.int .i64 i3)), (4, .ptr 4 0), (13, .ptr 13 0)], [(4, [.pv (.str p4.f0), .pv (.int .i64 p4.f1.f0), .pv (.int .i64 p4.f1.f1), .pv (.str p4.f1.f2), .pv (.int .i64 p4.f2)]), (13, [.pv (.int .i64 t13.f0), .pv (.int .i64 t13.f1), .pv (.str t13.f2)])]⟩ (nrmK UX (cadastrelaw5_CastBack_cfg k) 17 K) = cadastrelaw5_CastBack_j17 k (fun t2 => K .ret ⟨[(2, .pv (.bool t2))], []⟩) (fun l0 i3 => K .nxt ⟨[(0, .pv (.typ (.l25 l0))), (3, .pv (.int .i64 i3))], []⟩) l0 i3 p4 t13 := by kernel_rfl
theorem cadastrelaw5_CastBack_j17_ok3 {ρ : Type} (k : Nat) : JoinOK UX (cadastrelaw5_CastBack_cfg (ρ := ρ) k) (cadastrelaw5_CastBack_G k) (cadastrelaw5_CastBack_J.getD 3 .skip) 17 (cadastrelaw5_CastBack_j17_s k) := by
  intro s K r h
  obtain ⟨env, hp⟩ := s
  unfold cadastrelaw5_CastBack_j17_s at h
  replace h := popS_inv h; obtain ⟨v1, e2, rfl, h⟩ := h
  replace h := as_l25_inv h; obtain ⟨l0, rfl, h⟩ := h
  replace h := popS_inv h; obtain ⟨v3, e4, rfl, h⟩ := h
  replace h := asI_inv h; obtain ⟨i3, rfl, h⟩ := h
  replace h := popS_inv h; obtain ⟨v5, e6, rfl, h⟩ := h
  replace h := asP_inv h; obtain ⟨rfl, h⟩ := h
  replace h := popS_inv h; obtain ⟨v7, e8, rfl, h⟩ := h
  replace h := asP_inv h; obtain ⟨rfl, h⟩ := h
  replace h := popN_inv h; obtain ⟨rfl, h⟩ := h
  replace h := popB_inv h; obtain ⟨c9, e10, rfl, h⟩ := h
  replace h := popA_inv h; obtain ⟨v11, c12, rfl, h⟩ := h
  replace h := asS_inv h; obtain ⟨z13, rfl, h⟩ := h
  replace h := popA_inv h; obtain ⟨v14, c15, rfl, h⟩ := h
  replace h := asI_inv h; obtain ⟨z16, rfl, h⟩ := h
  replace h := popA_inv h; obtain ⟨v17, c18, rfl, h⟩ := h
  replace h := asI_inv h; obtain ⟨z19, rfl, h⟩ := h
  replace h := popA_inv h; obtain ⟨v20, c21, rfl, h⟩ := h
  replace h := asS_inv h; obtain ⟨z22, rfl, h⟩ := h
  replace h := popA_inv h; obtain ⟨v23, c24, rfl, h⟩ := h
  replace h := asI_inv h; obtain ⟨z25, rfl, h⟩ := h
  replace h := popN_inv h; obtain ⟨rfl, h⟩ := h
  replace h := popB_inv h; obtain ⟨c26, e27, rfl, h⟩ := h
  replace h := popA_inv h; obtain ⟨v28, c29, rfl, h⟩ := h
  replace h := asI_inv h; obtain ⟨z30, rfl, h⟩ := h
  replace h := popA_inv h; obtain ⟨v31, c32, rfl, h⟩ := h
  replace h := asI_inv h; obtain ⟨z33, rfl, h⟩ := h
  replace h := popA_inv h; obtain ⟨v34, c35, rfl, h⟩ := h
  replace h := asS_inv h; obtain ⟨z36, rfl, h⟩ := h
  replace h := popN_inv h; obtain ⟨rfl, h⟩ := h
  replace h := popN_inv h; obtain ⟨rfl, h⟩ := h
  exact (cadastrelaw5_CastBack_j17_eq3 k K l0 i3 (⟨z13, (⟨z16, z19, z22⟩ : S23), z25⟩ : S25) (⟨z30, z33, z36⟩ : S23)).trans h
theorem cadastrelaw5_CastBack_cok {ρ : Type} (k : Nat) : COK (cadastrelaw5_CastBack_cfg (ρ := ρ) k) (cadastrelaw5_CastBack_G k) cadastrelaw5_CastBack_code :=
  cok_of (tl := [(2, cadastrelaw5_CastBack_l2_s k)]) (tj := [(17, cadastrelaw5_CastBack_j17_s k), (14, cadastrelaw5_CastBack_j14_s k), (12, cadastrelaw5_CastBack_j12_s k), (4, cadastrelaw5_CastBack_j4_s k)]) (tb := []) rfl rfl rfl (all_nth 1 (by kernel_rfl) ⟨iter_case (by kernel_rfl) rfl (cadastrelaw5_CastBack_l2_ok0 k), trivial⟩) (all_nth 4 (by kernel_rfl) ⟨join_case (by kernel_rfl) rfl (cadastrelaw5_CastBack_j17_ok3 k), join_case (by kernel_rfl) rfl (cadastrelaw5_CastBack_j14_ok2 k), join_case (by kernel_rfl) rfl (cadastrelaw5_CastBack_j12_ok1 k), join_case (by kernel_rfl) rfl (cadastrelaw5_CastBack_j4_ok0 k), trivial⟩) (fun p hp => by cases hp)
noncomputable def cadastrelaw5_CastBack_enc (r : Bool) : AV UU := .pv (.bool r)
noncomputable def cadastrelaw5_CastBack_dec (v : AV UU) (_ : List (List (AV UU))) : Option Bool :=
asB v fun r0 =>
some r0
theorem cadastrelaw5_CastBack_dec_enc (v : AV UU) (b : List (List (AV UU))) (r : Bool) (h : cadastrelaw5_CastBack_dec v b = some r) : v = cadastrelaw5_CastBack_enc r := by
  unfold cadastrelaw5_CastBack_dec at h
  replace h := asB_inv h; obtain ⟨r0, rfl, h⟩ := h
  cases h
  rfl
theorem cadastrelaw5_CastBack_eq (k : Nat) (l0 : List S25) : bodyK UX (cadastrelaw5_CastBack_cfg k) (cadastrelaw5_CastBack_G k) Tryd.f5 [.pv (.typ (.l25 l0))] [] cadastrelaw5_CastBack_dec = cadastrelaw5_CastBack k l0 := by kernel_rfl
theorem cadastrelaw5_CastBack_con (k : Nat) (l0 : List S25) (r : Bool) (h : cadastrelaw5_CastBack k l0 = some r) : Con (X := UX) Tryd.prog 5 [.pv (.typ (.l25 l0))] [] (cadastrelaw5_CastBack_enc r) [] :=
  con_of_body xok tok Tryd.func5 cadastrelaw5_CastBack_body (cadastrelaw5_CastBack_gok k) rfl (cadastrelaw5_CastBack_cok k) (of_decide_eq_true (by kernel_rfl)) cadastrelaw5_CastBack_dec_enc ((cadastrelaw5_CastBack_eq k l0).trans h)
noncomputable def cadastrelaw5_CastBack_an {ρ : Type} (k : Nat) : An UX ρ := fun args bx K =>
popA args fun v1 a2 =>
as_l25 v1 fun l0 =>
popN a2 <|
popN bx <|
(cadastrelaw5_CastBack k l0).bind fun r => K (cadastrelaw5_CastBack_enc r) []
theorem cadastrelaw5_CastBack_ok {ρ : Type} (k : Nat) : AnsOK Tryd.prog 5 (cadastrelaw5_CastBack_an (ρ := ρ) k) := by
  intro args bx K r h
  unfold cadastrelaw5_CastBack_an at h
  replace h := popA_inv h; obtain ⟨v1, a2, rfl, h⟩ := h
  replace h := as_l25_inv h; obtain ⟨l0, rfl, h⟩ := h
  replace h := popN_inv h; obtain ⟨rfl, h⟩ := h
  replace h := popN_inv h; obtain ⟨rfl, h⟩ := h
  replace h := bind_inv h
  obtain ⟨x, hx, h⟩ := h
  exact ⟨there_of Tryd.func5 (by kernel_rfl) cadastrelaw5_CastBack_body, _, _, h, cadastrelaw5_CastBack_con k l0 x hx⟩

/-! cadastre/value.All -/
noncomputable def value_All_code : Code := match Tryd.f37.body with | some c => c | none => .skip
theorem value_All_body : Tryd.f37.body = some value_All_code := by kernel_rfl
noncomputable def value_All_G {ρ : Type} (k : Nat) : Ans UX ρ := gk 31 (value_Good_an k) (gnil)
theorem value_All_gok {ρ : Type} (k : Nat) : GOK Tryd.prog (value_All_G (ρ := ρ) k) := gok_cons (value_Good_ok k) (gok_nil)
noncomputable def value_All_j2_s {ρ : Type} (k : Nat) : Run UX ρ := fun s K =>
popS 0 s.env fun v1 e2 =>
as_l23 v1 fun l0 =>
popS 3 e2 fun v3 e4 =>
asI .i64 v3 fun i3 =>
popN e4 <|
popN s.hp <|
value_All_j2 k (fun t2 => K .ret ⟨[(2, .pv (.bool t2))], []⟩) (fun l0 i3 => K (.goto 0) ⟨[(0, .pv (.typ (.l23 l0))), (3, .pv (.int .i64 i3))], []⟩) l0 i3
noncomputable def value_All_g0_s {ρ : Type} (k : Nat) : Run UX ρ := fun s K =>
popS 0 s.env fun v1 e2 =>
as_l23 v1 fun l0 =>
popS 3 e2 fun v3 e4 =>
asI .i64 v3 fun i3 =>
popN e4 <|
popN s.hp <|
value_All_g0 k (fun t2 => K .ret ⟨[(2, .pv (.bool t2))], []⟩) k l0 i3
noncomputable def value_All_cfg {ρ : Type} (k : Nat) : Cfg UX ρ where
  live i := (assoc [(0, [0]), (1, [0]), (2, [0, 3]), (3, []), (4, [0, 3]), (5, [0, 3]), (6, [])] i).getD []
  boxes i := (assoc [(0, []), (1, []), (2, []), (3, []), (4, []), (5, []), (6, [])] i).getD []
  tk i := (assoc [] i).getD []
  n := 15
  labelR l := (assoc [(0, 2)] l).getD 0
  loops := assoc []
  labels := assoc [(0, value_All_g0_s k)]
  joins := assoc [(2, value_All_j2_s k)]
  xl i e := match e with
    | .nxt => assoc [] i
    | .ret => assoc [(2, ([2], [])), (2, ([2], []))] i
    | .exit j => (assoc [] i).bind fun l => assoc l j
    | .goto j => (assoc [(2, [(0, ([0, 3], []))])] i).bind fun l => assoc l j
noncomputable def value_All_L : List Code := selI [] (loopsOf value_All_code)
noncomputable def value_All_J : List Code := selI [2] (joinsOf value_All_code)
noncomputable def value_All_S : List Code := scopesOf value_All_code
theorem value_All_j2_eq0 {ρ : Type} (k : Nat) (K : Ex → St UU → Option ρ) (l0 : List S23) (i3 : Int) : exec UX (value_All_cfg k) (value_All_G k) (value_All_J.getD 0 .skip) ⟨[(0, .pv (.typ (.l23 l0))), (3, .pv (.int .i64 i3))], []⟩ (nrmK UX (value_All_cfg k) 2 K) = value_All_j2 k (fun t2 => K .ret ⟨[(2, .pv (.bool t2))], []⟩) (fun l0 i3 => K (.goto 0) ⟨[(0, .pv (.typ (.l23 l0))), (3, .pv (.int .i64 i3))], []⟩) l0 i3 := by kernel_rfl
theorem value_All_j2_ok0 {ρ : Type} (k : Nat) : JoinOK UX (value_All_cfg (ρ := ρ) k) (value_All_G k) (value_All_J.getD 0 .skip) 2 (value_All_j2_s k) := by
  intro s K r h
  obtain ⟨env, hp⟩ := s
  unfold value_All_j2_s at h
  replace h := popS_inv h; obtain ⟨v1, e2, rfl, h⟩ := h
  replace h := as_l23_inv h; obtain ⟨l0, rfl, h⟩ := h
  replace h := popS_inv h; obtain ⟨v3, e4, rfl, h⟩ := h
  replace h := asI_inv h; obtain ⟨i3, rfl, h⟩ := h
  replace h := popN_inv h; obtain ⟨rfl, h⟩ := h
  replace h := popN_inv h; obtain ⟨rfl, h⟩ := h
  exact (value_All_j2_eq0 k K l0 i3).trans h
noncomputable def value_All_g0_f0 {ρ : Type} (k : Nat) : Run UX ρ := (suff UX (value_All_cfg k) (value_All_G k) (value_All_S.getD 0 .skip) 0).getD fun _ _ => none
theorem value_All_g0_eq0 {ρ : Type} (k : Nat) (K : Ex → St UU → Option ρ) : ∀ (n : Nat) (v : (List S23) × Int), scopeN UX (fun l s => s.at (value_All_cfg (ρ := ρ) k).live (value_All_cfg (ρ := ρ) k).boxes (some ((value_All_cfg (ρ := ρ) k).labelR l))) (suff UX (value_All_cfg k) (value_All_G k) (value_All_S.getD 0 .skip)) (fun l => ((value_All_cfg (ρ := ρ) k).labels l).isSome) n (value_All_g0_f0 k) ⟨[(0, .pv (.typ (.l23 v.1))), (3, .pv (.int .i64 v.2))], []⟩ (nrmK UX (value_All_cfg k) ((value_All_cfg (ρ := ρ) k).labelR 0) K) = value_All_g0 k (fun t2 => K .ret ⟨[(2, .pv (.bool t2))], []⟩) n v.1 v.2 :=
  scope_rec (X := UX) (fun _ => value_All_g0_f0 k) (fun v => ⟨[(0, .pv (.typ (.l23 v.1))), (3, .pv (.int .i64 v.2))], []⟩) (fun rec v => value_All_g0_b k (fun t2 => K .ret ⟨[(2, .pv (.bool t2))], []⟩) (fun l0 i3 => rec (l0, i3)) v.1 v.2) (fun n v => value_All_g0 k (fun t2 => K .ret ⟨[(2, .pv (.bool t2))], []⟩) n v.1 v.2) (fun n v => by kernel_rfl) (fun _ => rfl) (fun _ _ => rfl)
theorem value_All_g0_ok0 {ρ : Type} (k : Nat) : LabOK UX (value_All_cfg (ρ := ρ) k) (value_All_G k) (value_All_S.getD 0 .skip) 0 (value_All_g0_s k) := by
  intro f hf s K r h
  have hf : value_All_g0_f0 k = f := by unfold value_All_g0_f0; rw [hf]; rfl
  subst hf
  obtain ⟨env, hp⟩ := s
  unfold value_All_g0_s at h
  replace h := popS_inv h; obtain ⟨v1, e2, rfl, h⟩ := h
  replace h := as_l23_inv h; obtain ⟨l0, rfl, h⟩ := h
  replace h := popS_inv h; obtain ⟨v3, e4, rfl, h⟩ := h
  replace h := asI_inv h; obtain ⟨i3, rfl, h⟩ := h
  replace h := popN_inv h; obtain ⟨rfl, h⟩ := h
  replace h := popN_inv h; obtain ⟨rfl, h⟩ := h
  exact ⟨k, (value_All_g0_eq0 k K k (l0, i3)).trans h⟩
theorem value_All_cok {ρ : Type} (k : Nat) : COK (value_All_cfg (ρ := ρ) k) (value_All_G k) value_All_code :=
  cok_of (tl := []) (tj := [(2, value_All_j2_s k)]) (tb := [(0, value_All_g0_s k)]) rfl rfl rfl (nil_all (by kernel_rfl)) (all_nth 1 (by kernel_rfl) ⟨join_case (by kernel_rfl) rfl (value_All_j2_ok0 k), trivial⟩) (fun p hp => by
    simp only [List.mem_cons, List.not_mem_nil, or_false] at hp
    subst hp
    · exact all_nth 1 (by kernel_rfl) ⟨value_All_g0_ok0 k, trivial⟩)
noncomputable def value_All_enc (r : Bool) : AV UU := .pv (.bool r)
noncomputable def value_All_dec (v : AV UU) (_ : List (List (AV UU))) : Option Bool :=
asB v fun r0 =>
some r0
theorem value_All_dec_enc (v : AV UU) (b : List (List (AV UU))) (r : Bool) (h : value_All_dec v b = some r) : v = value_All_enc r := by
  unfold value_All_dec at h
  replace h := asB_inv h; obtain ⟨r0, rfl, h⟩ := h
  cases h
  rfl
theorem value_All_eq (k : Nat) (l0 : List S23) : bodyK UX (value_All_cfg k) (value_All_G k) Tryd.f37 [.pv (.typ (.l23 l0))] [] value_All_dec = value_All k l0 := by kernel_rfl
theorem value_All_con (k : Nat) (l0 : List S23) (r : Bool) (h : value_All k l0 = some r) : Con (X := UX) Tryd.prog 37 [.pv (.typ (.l23 l0))] [] (value_All_enc r) [] :=
  con_of_body xok tok Tryd.func37 value_All_body (value_All_gok k) rfl (value_All_cok k) (of_decide_eq_true (by kernel_rfl)) value_All_dec_enc ((value_All_eq k l0).trans h)
noncomputable def value_All_an {ρ : Type} (k : Nat) : An UX ρ := fun args bx K =>
popA args fun v1 a2 =>
as_l23 v1 fun l0 =>
popN a2 <|
popN bx <|
(value_All k l0).bind fun r => K (value_All_enc r) []
theorem value_All_ok {ρ : Type} (k : Nat) : AnsOK Tryd.prog 37 (value_All_an (ρ := ρ) k) := by
  intro args bx K r h
  unfold value_All_an at h
  replace h := popA_inv h; obtain ⟨v1, a2, rfl, h⟩ := h
  replace h := as_l23_inv h; obtain ⟨l0, rfl, h⟩ := h
  replace h := popN_inv h; obtain ⟨rfl, h⟩ := h
  replace h := popN_inv h; obtain ⟨rfl, h⟩ := h
  replace h := bind_inv h
  obtain ⟨x, hx, h⟩ := h
  exact ⟨there_of Tryd.func37 (by kernel_rfl) value_All_body, _, _, h, value_All_con k l0 x hx⟩
end Go.Proofs.YtdfmfpbdggefpaaDoor.D
