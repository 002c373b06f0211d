/-
  What the program's functions answer: the printed functions' answers.
-/
import Derived.Test.YtekjibpkkgldgaaRG2
namespace Go.Proofs.Ytekjibpkkgldgaa.R
open Go Go.AX
/-! cadastre/cadastreref6.value -/
noncomputable def cadastreref6_value_code : Code := match Try.f67.body with | some c => c | none => .skip
theorem cadastreref6_value_body : Try.f67.body = some cadastreref6_value_code := by kernel_rfl
noncomputable def cadastreref6_value_G {ρ : Type} (k : Nat) : Ans UX ρ := gk 99 (cadastreref2_Int_an k) (gk 100 (cadastreref6_size_an k) (gnil))
theorem cadastreref6_value_gok {ρ : Type} (k : Nat) : GOK Try.prog (cadastreref6_value_G (ρ := ρ) k) := gok_cons (cadastreref2_Int_ok k) (gok_cons (cadastreref6_size_ok k) (gok_nil))
noncomputable def cadastreref6_value_l16_s {ρ : Type} (k : Nat) : Run UX ρ := fun s K =>
popS 1 s.env fun v1 e2 =>
as_li_u8 v1 fun b1 =>
popS 4 e2 fun v3 e4 =>
asP 4 0 v3 <|
popS 7 e4 fun v5 e6 =>
asI .i64 v5 fun n7 =>
popS 8 e6 fun v7 e8 =>
asI .i64 v7 fun x8 =>
popS 9 e8 fun v9 e10 =>
asI .i64 v9 fun i9 =>
popN e10 <|
popB 4 s.hp fun c11 e12 =>
popA c11 fun v13 c14 =>
asI .i64 v13 fun z15 =>
popA c14 fun v16 c17 =>
asI .i64 v16 fun z18 =>
popA c17 fun v19 c20 =>
asS v19 fun z21 =>
popN c20 <|
popN e12 <|
cadastreref6_value_l16 k (fun n7 x8 t4 => K (.exit 1) ⟨[(4, .ptr 4 0), (7, .pv (.int .i64 n7)), (8, .pv (.int .i64 x8))], [(4, [.pv (.int .i64 t4.f0), .pv (.int .i64 t4.f1), .pv (.str t4.f2)])]⟩) k b1 n7 x8 i9 (⟨z15, z18, z21⟩ : S44)
noncomputable def cadastreref6_value_j11_s {ρ : Type} (k : Nat) : Run UX ρ := fun s K =>
popS 0 s.env fun v1 e2 =>
asI .u64 v1 fun t0 =>
popS 1 e2 fun v3 e4 =>
as_li_u8 v3 fun b1 =>
popS 4 e4 fun v5 e6 =>
asP 4 0 v5 <|
popN e6 <|
popB 4 s.hp fun c7 e8 =>
popA c7 fun v9 c10 =>
asI .i64 v9 fun z11 =>
popA c10 fun v12 c13 =>
asI .i64 v12 fun z14 =>
popA c13 fun v15 c16 =>
asS v15 fun z17 =>
popN c16 <|
popN e8 <|
cadastreref6_value_j11 k (fun t5 t6 t4 => K .ret ⟨[(4, .ptr 4 0), (5, .pv (.int .i64 t5)), (6, .pv (.bool t6))], [(4, [.pv (.int .i64 t4.f0), .pv (.int .i64 t4.f1), .pv (.str t4.f2)])]⟩) t0 b1 (⟨z11, z14, z17⟩ : S44)
noncomputable def cadastreref6_value_j7_s {ρ : Type} (k : Nat) : Run UX ρ := fun s K =>
popS 0 s.env fun v1 e2 =>
asI .u64 v1 fun t0 =>
popS 1 e2 fun v3 e4 =>
as_li_u8 v3 fun b1 =>
popS 4 e4 fun v5 e6 =>
asP 4 0 v5 <|
popS 12 e6 fun v7 e8 =>
asI .u64 v7 fun t12 =>
popN e8 <|
popB 4 s.hp fun c9 e10 =>
popA c9 fun v11 c12 =>
asI .i64 v11 fun z13 =>
popA c12 fun v14 c15 =>
asI .i64 v14 fun z16 =>
popA c15 fun v17 c18 =>
asS v17 fun z19 =>
popN c18 <|
popN e10 <|
cadastreref6_value_j7 k (fun t5 t6 t4 => K .ret ⟨[(4, .ptr 4 0), (5, .pv (.int .i64 t5)), (6, .pv (.bool t6))], [(4, [.pv (.int .i64 t4.f0), .pv (.int .i64 t4.f1), .pv (.str t4.f2)])]⟩) (fun t0 b1 t4 => K .nxt ⟨[(0, .pv (.int .u64 t0)), (1, .pv (.typ (.li_u8 b1))), (4, .ptr 4 0)], [(4, [.pv (.int .i64 t4.f0), .pv (.int .i64 t4.f1), .pv (.str t4.f2)])]⟩) t0 b1 t12 (⟨z13, z16, z19⟩ : S44)
noncomputable def cadastreref6_value_j28_s {ρ : Type} (k : Nat) : Run UX ρ := fun s K =>
popS 1 s.env fun v1 e2 =>
as_li_u8 v1 fun b1 =>
popS 4 e2 fun v3 e4 =>
asP 4 0 v3 <|
popS 10 e4 fun v5 e6 =>
asI .i64 v5 fun n10 =>
popS 11 e6 fun v7 e8 =>
asI .i64 v7 fun k11 =>
popN e8 <|
popB 4 s.hp fun c9 e10 =>
popA c9 fun v11 c12 =>
asI .i64 v11 fun z13 =>
popA c12 fun v14 c15 =>
asI .i64 v14 fun z16 =>
popA c15 fun v17 c18 =>
asS v17 fun z19 =>
popN c18 <|
popN e10 <|
cadastreref6_value_j28 k (fun t5 t6 t4 => K .ret ⟨[(4, .ptr 4 0), (5, .pv (.int .i64 t5)), (6, .pv (.bool t6))], [(4, [.pv (.int .i64 t4.f0), .pv (.int .i64 t4.f1), .pv (.str t4.f2)])]⟩) b1 n10 k11 (⟨z13, z16, z19⟩ : S44)
noncomputable def cadastreref6_value_j22_s {ρ : Type} (k : Nat) : Run UX ρ := fun s K =>
popS 0 s.env fun v1 e2 =>
asI .u64 v1 fun t0 =>
popS 1 e2 fun v3 e4 =>
as_li_u8 v3 fun b1 =>
popS 4 e4 fun v5 e6 =>
asP 4 0 v5 <|
popN e6 <|
popB 4 s.hp fun c7 e8 =>
popA c7 fun v9 c10 =>
asI .i64 v9 fun z11 =>
popA c10 fun v12 c13 =>
asI .i64 v12 fun z14 =>
popA c13 fun v15 c16 =>
asS v15 fun z17 =>
popN c16 <|
popN e8 <|
cadastreref6_value_j22 k (fun t5 t6 t4 => K .ret ⟨[(4, .ptr 4 0), (5, .pv (.int .i64 t5)), (6, .pv (.bool t6))], [(4, [.pv (.int .i64 t4.f0), .pv (.int .i64 t4.f1), .pv (.str t4.f2)])]⟩) t0 b1 (⟨z11, z14, z17⟩ : S44)
noncomputable def cadastreref6_value_j20_s {ρ : Type} (k : Nat) : Run UX ρ := fun s K =>
popS 0 s.env fun v1 e2 =>
asI .u64 v1 fun t0 =>
popS 1 e2 fun v3 e4 =>
as_li_u8 v3 fun b1 =>
popS 4 e4 fun v5 e6 =>
asP 4 0 v5 <|
popN e6 <|
popB 4 s.hp fun c7 e8 =>
popA c7 fun v9 c10 =>
asI .i64 v9 fun z11 =>
popA c10 fun v12 c13 =>
asI .i64 v12 fun z14 =>
popA c13 fun v15 c16 =>
asS v15 fun z17 =>
popN c16 <|
popN e8 <|
cadastreref6_value_j20 k (fun t5 t6 t4 => K .ret ⟨[(4, .ptr 4 0), (5, .pv (.int .i64 t5)), (6, .pv (.bool t6))], [(4, [.pv (.int .i64 t4.f0), .pv (.int .i64 t4.f1), .pv (.str t4.f2)])]⟩) t0 b1 (⟨z11, z14, z17⟩ : S44)
noncomputable def cadastreref6_value_cfg {ρ : Type} (k : Nat) : Cfg UX ρ where
  live i := (assoc [(0, [0, 1]), (1, [0, 1, 4]), (2, [0, 1, 4, 12]), (3, [4]), (4, [0, 1, 4, 12]), (5, [0, 1, 4, 12]), (6, [0, 4]), (7, [0, 1, 4, 12]), (8, [0, 1, 4, 12]), (9, [0, 1, 4, 12]), (10, [0, 1, 4, 12]), (11, [0, 1, 4]), (12, [1, 4, 7]), (13, [4]), (14, [1, 4, 7]), (15, [1, 4, 7, 8]), (16, [1, 4, 7, 8, 9]), (17, [1, 4, 7, 8, 9]), (18, [1, 4, 7, 8, 9]), (19, [4, 7, 8]), (20, [0, 1, 4]), (21, [4]), (22, [0, 1, 4]), (23, [0, 1, 4, 10]), (24, [4]), (25, [0, 1, 4, 10]), (26, [0, 1, 4, 10, 11]), (27, [1, 4, 10]), (28, [1, 4, 10, 11])] i).getD []
  boxes i := (assoc [(0, []), (1, [4]), (2, [4]), (3, [4]), (4, [4]), (5, [4]), (6, [4]), (7, [4]), (8, [4]), (9, [4]), (10, [4]), (11, [4]), (12, [4]), (13, [4]), (14, [4]), (15, [4]), (16, [4]), (17, [4]), (18, [4]), (19, [4]), (20, [4]), (21, [4]), (22, [4]), (23, [4]), (24, [4]), (25, [4]), (26, [4]), (27, [4]), (28, [4])] i).getD []
  tk i := (assoc [] i).getD []
  n := 82
  labelR l := (assoc [] l).getD 0
  loops := assoc [(16, cadastreref6_value_l16_s k)]
  labels := assoc []
  joins := assoc [(11, cadastreref6_value_j11_s k), (7, cadastreref6_value_j7_s k), (28, cadastreref6_value_j28_s k), (22, cadastreref6_value_j22_s k), (20, cadastreref6_value_j20_s k)]
  xl i e := match e with
    | .nxt => assoc [(7, ([0, 1, 4], [4]))] i
    | .ret => assoc [(11, ([4, 5, 6], [4])), (7, ([4, 5, 6], [4])), (28, ([4, 5, 6], [4])), (22, ([4, 5, 6], [4])), (20, ([4, 5, 6], [4]))] i
    | .exit j => (assoc [(16, [(1, ([4, 7, 8], [4]))])] i).bind fun l => assoc l j
    | .goto j => (assoc [] i).bind fun l => assoc l j
noncomputable def cadastreref6_value_L : List Code := selI [16] (loopsOf cadastreref6_value_code)
noncomputable def cadastreref6_value_J : List Code := selI [11, 7, 28, 22, 20] (joinsOf cadastreref6_value_code)
noncomputable def cadastreref6_value_S : List Code := scopesOf cadastreref6_value_code
theorem cadastreref6_value_l16_eq0 {ρ : Type} (k : Nat) (K : Ex → St UU → Option ρ) : ∀ (n : Nat) (v : (List Int) × Int × Int × Int × S44), iterK UX (fun s => s.at (cadastreref6_value_cfg (ρ := ρ) k).live (cadastreref6_value_cfg (ρ := ρ) k).boxes (some 16)) (exec UX (cadastreref6_value_cfg k) (cadastreref6_value_G k) (cadastreref6_value_L.getD 0 .skip)) n ⟨[(1, .pv (.typ (.li_u8 v.1))), (4, .ptr 4 0), (7, .pv (.int .i64 v.2.1)), (8, .pv (.int .i64 v.2.2.1)), (9, .pv (.int .i64 v.2.2.2.1))], [(4, [.pv (.int .i64 v.2.2.2.2.f0), .pv (.int .i64 v.2.2.2.2.f1), .pv (.str v.2.2.2.2.f2)])]⟩ (nrmK UX (cadastreref6_value_cfg k) 16 K) = cadastreref6_value_l16 k (fun n7 x8 t4 => K (.exit 1) ⟨[(4, .ptr 4 0), (7, .pv (.int .i64 n7)), (8, .pv (.int .i64 x8))], [(4, [.pv (.int .i64 t4.f0), .pv (.int .i64 t4.f1), .pv (.str t4.f2)])]⟩) n v.1 v.2.1 v.2.2.1 v.2.2.2.1 v.2.2.2.2 :=
  iter_rec (X := UX) (fun v => ⟨[(1, .pv (.typ (.li_u8 v.1))), (4, .ptr 4 0), (7, .pv (.int .i64 v.2.1)), (8, .pv (.int .i64 v.2.2.1)), (9, .pv (.int .i64 v.2.2.2.1))], [(4, [.pv (.int .i64 v.2.2.2.2.f0), .pv (.int .i64 v.2.2.2.2.f1), .pv (.str v.2.2.2.2.f2)])]⟩) (fun rec v => cadastreref6_value_l16_b k (fun n7 x8 t4 => K (.exit 1) ⟨[(4, .ptr 4 0), (7, .pv (.int .i64 n7)), (8, .pv (.int .i64 x8))], [(4, [.pv (.int .i64 t4.f0), .pv (.int .i64 t4.f1), .pv (.str t4.f2)])]⟩) (fun b1 n7 x8 i9 t4 => rec (b1, n7, x8, i9, t4)) v.1 v.2.1 v.2.2.1 v.2.2.2.1 v.2.2.2.2) (fun n v => cadastreref6_value_l16 k (fun n7 x8 t4 => K (.exit 1) ⟨[(4, .ptr 4 0), (7, .pv (.int .i64 n7)), (8, .pv (.int .i64 x8))], [(4, [.pv (.int .i64 t4.f0), .pv (.int .i64 t4.f1), .pv (.str t4.f2)])]⟩) n v.1 v.2.1 v.2.2.1 v.2.2.2.1 v.2.2.2.2) (fun n v => by kernel_rfl) (fun _ => rfl) (fun _ _ => rfl)
theorem cadastreref6_value_l16_ok0 {ρ : Type} (k : Nat) : IterOK UX (cadastreref6_value_cfg (ρ := ρ) k) (cadastreref6_value_G k) (cadastreref6_value_L.getD 0 .skip) 16 (cadastreref6_value_l16_s k) := by
  intro s K r h
  obtain ⟨env, hp⟩ := s
  unfold cadastreref6_value_l16_s at h
  replace h := popS_inv h; obtain ⟨v1, e2, rfl, h⟩ := h
  replace h := as_li_u8_inv h; obtain ⟨b1, rfl, h⟩ := h
  replace h := popS_inv h; obtain ⟨v3, e4, rfl, h⟩ := h
  replace h := asP_inv h; obtain ⟨rfl, h⟩ := h
  replace h := popS_inv h; obtain ⟨v5, e6, rfl, h⟩ := h
  replace h := asI_inv h; obtain ⟨n7, rfl, h⟩ := h
  replace h := popS_inv h; obtain ⟨v7, e8, rfl, h⟩ := h
  replace h := asI_inv h; obtain ⟨x8, rfl, h⟩ := h
  replace h := popS_inv h; obtain ⟨v9, e10, rfl, h⟩ := h
  replace h := asI_inv h; obtain ⟨i9, rfl, h⟩ := h
  replace h := popN_inv h; obtain ⟨rfl, h⟩ := h
  replace h := popB_inv h; obtain ⟨c11, e12, rfl, h⟩ := h
  replace h := popA_inv h; obtain ⟨v13, c14, rfl, h⟩ := h
  replace h := asI_inv h; obtain ⟨z15, rfl, h⟩ := h
  replace h := popA_inv h; obtain ⟨v16, c17, rfl, h⟩ := h
  replace h := asI_inv h; obtain ⟨z18, rfl, h⟩ := h
  replace h := popA_inv h; obtain ⟨v19, c20, rfl, h⟩ := h
  replace h := asS_inv h; obtain ⟨z21, rfl, h⟩ := h
  replace h := popN_inv h; obtain ⟨rfl, h⟩ := h
  replace h := popN_inv h; obtain ⟨rfl, h⟩ := h
  exact ⟨k, (cadastreref6_value_l16_eq0 k K k (b1, n7, x8, i9, (⟨z15, z18, z21⟩ : S44))).trans h⟩
theorem cadastreref6_value_j20_eq0 {ρ : Type} (k : Nat) (K : Ex → St UU → Option ρ) (t0 : Int) (b1 : List Int) (t4 : S44) : exec UX (cadastreref6_value_cfg k) (cadastreref6_value_G k) (cadastreref6_value_J.getD 0 .skip) ⟨[(0, .pv (.int .u64 t0)), (1, .pv (.typ (.li_u8 b1))), (4, .ptr 4 0)], [(4, [.pv (.int .i64 t4.f0), .pv (.int .i64 t4.f1), .pv (.str t4.f2)])]⟩ (nrmK UX (cadastreref6_value_cfg k) 20 K) = cadastreref6_value_j20 k (fun t5 t6 t4 => K .ret ⟨[(4, .ptr 4 0), (5, .pv (.int .i64 t5)), (6, .pv (.bool t6))], [(4, [.pv (.int .i64 t4.f0), .pv (.int .i64 t4.f1), .pv (.str t4.f2)])]⟩) t0 b1 t4 := by kernel_rfl
theorem cadastreref6_value_j20_ok0 {ρ : Type} (k : Nat) : JoinOK UX (cadastreref6_value_cfg (ρ := ρ) k) (cadastreref6_value_G k) (cadastreref6_value_J.getD 0 .skip) 20 (cadastreref6_value_j20_s k) := by
  intro s K r h
  obtain ⟨env, hp⟩ := s
  unfold cadastreref6_value_j20_s at h
  replace h := popS_inv h; obtain ⟨v1, e2, rfl, h⟩ := h
  replace h := asI_inv h; obtain ⟨t0, rfl, h⟩ := h
  replace h := popS_inv h; obtain ⟨v3, e4, rfl, h⟩ := h
  replace h := as_li_u8_inv h; obtain ⟨b1, rfl, h⟩ := h
  replace h := popS_inv h; obtain ⟨v5, e6, rfl, h⟩ := h
  replace h := asP_inv h; obtain ⟨rfl, h⟩ := h
  replace h := popN_inv h; obtain ⟨rfl, h⟩ := h
  replace h := popB_inv h; obtain ⟨c7, e8, rfl, h⟩ := h
  replace h := popA_inv h; obtain ⟨v9, c10, rfl, h⟩ := h
  replace h := asI_inv h; obtain ⟨z11, rfl, h⟩ := h
  replace h := popA_inv h; obtain ⟨v12, c13, rfl, h⟩ := h
  replace h := asI_inv h; obtain ⟨z14, rfl, h⟩ := h
  replace h := popA_inv h; obtain ⟨v15, c16, rfl, h⟩ := h
  replace h := asS_inv h; obtain ⟨z17, rfl, h⟩ := h
  replace h := popN_inv h; obtain ⟨rfl, h⟩ := h
  replace h := popN_inv h; obtain ⟨rfl, h⟩ := h
  exact (cadastreref6_value_j20_eq0 k K t0 b1 (⟨z11, z14, z17⟩ : S44)).trans h
theorem cadastreref6_value_j7_eq1 {ρ : Type} (k : Nat) (K : Ex → St UU → Option ρ) (t0 : Int) (b1 : List Int) (t12 : Int) (t4 : S44) : exec UX (cadastreref6_value_cfg k) (cadastreref6_value_G k) (cadastreref6_value_J.getD 1 .skip) ⟨[(0, .pv (.int .u64 t0)), (1, .pv (.typ (.li_u8 b1))), (4, .ptr 4 0), (12, .pv (.int .u64 t12))], [(4, [.pv (.int .i64 t4.f0), .pv (.int .i64 t4.f1), .pv (.str t4.f2)])]⟩ (nrmK UX (cadastreref6_value_cfg k) 7 K) = cadastreref6_value_j7 k (fun t5 t6 t4 => K .ret ⟨[(4, .ptr 4 0), (5, .pv (.int .i64 t5)), (6, .pv (.bool t6))], [(4, [.pv (.int .i64 t4.f0), .pv (.int .i64 t4.f1), .pv (.str t4.f2)])]⟩) (fun t0 b1 t4 => K .nxt ⟨[(0, .pv (.int .u64 t0)), (1, .pv (.typ (.li_u8 b1))), (4, .ptr 4 0)], [(4, [.pv (.int .i64 t4.f0), .pv (.int .i64 t4.f1), .pv (.str t4.f2)])]⟩) t0 b1 t12 t4 := by kernel_rfl
theorem cadastreref6_value_j7_ok1 {ρ : Type} (k : Nat) : JoinOK UX (cadastreref6_value_cfg (ρ := ρ) k) (cadastreref6_value_G k) (cadastreref6_value_J.getD 1 .skip) 7 (cadastreref6_value_j7_s k) := by
  intro s K r h
  obtain ⟨env, hp⟩ := s
  unfold cadastreref6_value_j7_s at h
  replace h := popS_inv h; obtain ⟨v1, e2, rfl, h⟩ := h
  replace h := asI_inv h; obtain ⟨t0, rfl, h⟩ := h
  replace h := popS_inv h; obtain ⟨v3, e4, rfl, h⟩ := h
  replace h := as_li_u8_inv h; obtain ⟨b1, rfl, h⟩ := h
  replace h := popS_inv h; obtain ⟨v5, e6, rfl, h⟩ := h
  replace h := asP_inv h; obtain ⟨rfl, h⟩ := h
  replace h := popS_inv h; obtain ⟨v7, e8, rfl, h⟩ := h
  replace h := asI_inv h; obtain ⟨t12, rfl, h⟩ := h
  replace h := popN_inv h; obtain ⟨rfl, h⟩ := h
  replace h := popB_inv h; obtain ⟨c9, e10, rfl, h⟩ := h
  replace h := popA_inv h; obtain ⟨v11, c12, rfl, h⟩ := h
  replace h := asI_inv h; obtain ⟨z13, rfl, h⟩ := h
  replace h := popA_inv h; obtain ⟨v14, c15, rfl, h⟩ := h
  replace h := asI_inv h; obtain ⟨z16, rfl, h⟩ := h
  replace h := popA_inv h; obtain ⟨v17, c18, rfl, h⟩ := h
  replace h := asS_inv h; obtain ⟨z19, rfl, h⟩ := h
  replace h := popN_inv h; obtain ⟨rfl, h⟩ := h
  replace h := popN_inv h; obtain ⟨rfl, h⟩ := h
  exact (cadastreref6_value_j7_eq1 k K t0 b1 t12 (⟨z13, z16, z19⟩ : S44)).trans h
theorem cadastreref6_value_j11_eq2 {ρ : Type} (k : Nat) (K : Ex → St UU → Option ρ) (t0 : Int) (b1 : List Int) (t4 : S44) : exec UX (cadastreref6_value_cfg k) (cadastreref6_value_G k) (cadastreref6_value_J.getD 2 .skip) ⟨[(0, .pv (.int .u64 t0)), (1, .pv (.typ (.li_u8 b1))), (4, .ptr 4 0)], [(4, [.pv (.int .i64 t4.f0), .pv (.int .i64 t4.f1), .pv (.str t4.f2)])]⟩ (nrmK UX (cadastreref6_value_cfg k) 11 K) = cadastreref6_value_j11 k (fun t5 t6 t4 => K .ret ⟨[(4, .ptr 4 0), (5, .pv (.int .i64 t5)), (6, .pv (.bool t6))], [(4, [.pv (.int .i64 t4.f0), .pv (.int .i64 t4.f1), .pv (.str t4.f2)])]⟩) t0 b1 t4 := by kernel_rfl
theorem cadastreref6_value_j11_ok2 {ρ : Type} (k : Nat) : JoinOK UX (cadastreref6_value_cfg (ρ := ρ) k) (cadastreref6_value_G k) (cadastreref6_value_J.getD 2 .skip) 11 (cadastreref6_value_j11_s k) := by
  intro s K r h
  obtain ⟨env, hp⟩ := s
  unfold cadastreref6_value_j11_s at h
  replace h := popS_inv h; obtain ⟨v1, e2, rfl, h⟩ := h
  replace h := asI_inv h; obtain ⟨t0, rfl, h⟩ := h
  replace h := popS_inv h; obtain ⟨v3, e4, rfl, h⟩ := h
  replace h := as_li_u8_inv h; obtain ⟨b1, rfl, h⟩ := h
  replace h := popS_inv h; obtain ⟨v5, e6, rfl, h⟩ := h
  replace h := asP_inv h; obtain ⟨rfl, h⟩ := h
  replace h := popN_inv h; obtain ⟨rfl, h⟩ := h
  replace h := popB_inv h; obtain ⟨c7, e8, rfl, h⟩ := h
  replace h := popA_inv h; obtain ⟨v9, c10, rfl, h⟩ := h
  replace h := asI_inv h; obtain ⟨z11, rfl, h⟩ := h
  replace h := popA_inv h; obtain ⟨v12, c13, rfl, h⟩ := h
  replace h := asI_inv h; obtain ⟨z14, rfl, h⟩ := h
  replace h := popA_inv h; obtain ⟨v15, c16, rfl, h⟩ := h
  replace h := asS_inv h; obtain ⟨z17, rfl, h⟩ := h
  replace h := popN_inv h; obtain ⟨rfl, h⟩ := h
  replace h := popN_inv h; obtain ⟨rfl, h⟩ := h
  exact (cadastreref6_value_j11_eq2 k K t0 b1 (⟨z11, z14, z17⟩ : S44)).trans h
theorem cadastreref6_value_j22_eq3 {ρ : Type} (k : Nat) (K : Ex → St UU → Option ρ) (t0 : Int) (b1 : List Int) (t4 : S44) : exec UX (cadastreref6_value_cfg k) (cadastreref6_value_G k) (cadastreref6_value_J.getD 3 .skip) ⟨[(0, .pv (.int .u64 t0)), (1, .pv (.typ (.li_u8 b1))), (4, .ptr 4 0)], [(4, [.pv (.int .i64 t4.f0), .pv (.int .i64 t4.f1), .pv (.str t4.f2)])]⟩ (nrmK UX (cadastreref6_value_cfg k) 22 K) = cadastreref6_value_j22 k (fun t5 t6 t4 => K .ret ⟨[(4, .ptr 4 0), (5, .pv (.int .i64 t5)), (6, .pv (.bool t6))], [(4, [.pv (.int .i64 t4.f0), .pv (.int .i64 t4.f1), .pv (.str t4.f2)])]⟩) t0 b1 t4 := by kernel_rfl
theorem cadastreref6_value_j22_ok3 {ρ : Type} (k : Nat) : JoinOK UX (cadastreref6_value_cfg (ρ := ρ) k) (cadastreref6_value_G k) (cadastreref6_value_J.getD 3 .skip) 22 (cadastreref6_value_j22_s k) := by
  intro s K r h
  obtain ⟨env, hp⟩ := s
  unfold cadastreref6_value_j22_s at h
  replace h := popS_inv h; obtain ⟨v1, e2, rfl, h⟩ := h
  replace h := asI_inv h; obtain ⟨t0, rfl, h⟩ := h
  replace h := popS_inv h; obtain ⟨v3, e4, rfl, h⟩ := h
  replace h := as_li_u8_inv h; obtain ⟨b1, rfl, h⟩ := h
  replace h := popS_inv h; obtain ⟨v5, e6, rfl, h⟩ := h
  replace h := asP_inv h; obtain ⟨rfl, h⟩ := h
  replace h := popN_inv h; obtain ⟨rfl, h⟩ := h
  replace h := popB_inv h; obtain ⟨c7, e8, rfl, h⟩ := h
  replace h := popA_inv h; obtain ⟨v9, c10, rfl, h⟩ := h
  replace h := asI_inv h; obtain ⟨z11, rfl, h⟩ := h
  replace h := popA_inv h; obtain ⟨v12, c13, rfl, h⟩ := h
  replace h := asI_inv h; obtain ⟨z14, rfl, h⟩ := h
  replace h := popA_inv h; obtain ⟨v15, c16, rfl, h⟩ := h
  replace h := asS_inv h; obtain ⟨z17, rfl, h⟩ := h
  replace h := popN_inv h; obtain ⟨rfl, h⟩ := h
  replace h := popN_inv h; obtain ⟨rfl, h⟩ := h
  exact (cadastreref6_value_j22_eq3 k K t0 b1 (⟨z11, z14, z17⟩ : S44)).trans h
theorem cadastreref6_value_j28_eq4 {ρ : Type} (k : Nat) (K : Ex → St UU → Option ρ) (b1 : List Int) (n10 : Int) (k11 : Int) (t4 : S44) : exec UX (cadastreref6_value_cfg k) (cadastreref6_value_G k) (cadastreref6_value_J.getD 4 .skip) ⟨[(1, .pv (.typ (.li_u8 b1))), (4, .ptr 4 0), (10, .pv (.int .i64 n10)), (11, .pv (.int .i64 k11))], [(4, [.pv (.int .i64 t4.f0), .pv (.int .i64 t4.f1), .pv (.str t4.f2)])]⟩ (nrmK UX (cadastreref6_value_cfg k) 28 K) = cadastreref6_value_j28 k (fun t5 t6 t4 => K .ret ⟨[(4, .ptr 4 0), (5, .pv (.int .i64 t5)), (6, .pv (.bool t6))], [(4, [.pv (.int .i64 t4.f0), .pv (.int .i64 t4.f1), .pv (.str t4.f2)])]⟩) b1 n10 k11 t4 := by kernel_rfl
theorem cadastreref6_value_j28_ok4 {ρ : Type} (k : Nat) : JoinOK UX (cadastreref6_value_cfg (ρ := ρ) k) (cadastreref6_value_G k) (cadastreref6_value_J.getD 4 .skip) 28 (cadastreref6_value_j28_s k) := by
  intro s K r h
  obtain ⟨env, hp⟩ := s
  unfold cadastreref6_value_j28_s at h
  replace h := popS_inv h; obtain ⟨v1, e2, rfl, h⟩ := h
  replace h := as_li_u8_inv h; obtain ⟨b1, rfl, h⟩ := h
  replace h := popS_inv h; obtain ⟨v3, e4, rfl, h⟩ := h
  replace h := asP_inv h; obtain ⟨rfl, h⟩ := h
  replace h := popS_inv h; obtain ⟨v5, e6, rfl, h⟩ := h
  replace h := asI_inv h; obtain ⟨n10, rfl, h⟩ := h
  replace h := popS_inv h; obtain ⟨v7, e8, rfl, h⟩ := h
  replace h := asI_inv h; obtain ⟨k11, rfl, h⟩ := h
  replace h := popN_inv h; obtain ⟨rfl, h⟩ := h
  replace h := popB_inv h; obtain ⟨c9, e10, rfl, h⟩ := h
  replace h := popA_inv h; obtain ⟨v11, c12, rfl, h⟩ := h
  replace h := asI_inv h; obtain ⟨z13, rfl, h⟩ := h
  replace h := popA_inv h; obtain ⟨v14, c15, rfl, h⟩ := h
  replace h := asI_inv h; obtain ⟨z16, rfl, h⟩ := h
  replace h := popA_inv h; obtain ⟨v17, c18, rfl, h⟩ := h
  replace h := asS_inv h; obtain ⟨z19, rfl, h⟩ := h
  replace h := popN_inv h; obtain ⟨rfl, h⟩ := h
  replace h := popN_inv h; obtain ⟨rfl, h⟩ := h
  exact (cadastreref6_value_j28_eq4 k K b1 n10 k11 (⟨z13, z16, z19⟩ : S44)).trans h
theorem cadastreref6_value_cok {ρ : Type} (k : Nat) : COK (cadastreref6_value_cfg (ρ := ρ) k) (cadastreref6_value_G k) cadastreref6_value_code :=
  cok_of (tl := [(16, cadastreref6_value_l16_s k)]) (tj := [(11, cadastreref6_value_j11_s k), (7, cadastreref6_value_j7_s k), (28, cadastreref6_value_j28_s k), (22, cadastreref6_value_j22_s k), (20, cadastreref6_value_j20_s k)]) (tb := []) rfl rfl rfl (all_nth 1 (by kernel_rfl) ⟨iter_case (by kernel_rfl) rfl (cadastreref6_value_l16_ok0 k), trivial⟩) (all_nth 5 (by kernel_rfl) ⟨join_case (by kernel_rfl) rfl (cadastreref6_value_j28_ok4 k), join_case (by kernel_rfl) rfl (cadastreref6_value_j22_ok3 k), join_case (by kernel_rfl) rfl (cadastreref6_value_j11_ok2 k), join_case (by kernel_rfl) rfl (cadastreref6_value_j7_ok1 k), join_case (by kernel_rfl) rfl (cadastreref6_value_j20_ok0 k), trivial⟩) (fun p hp => by cases hp)
noncomputable def cadastreref6_value_enc (r : S44 × Int × Bool) : AV UU := .pv (.tup [.typ (.s44 r.1), .int .i64 r.2.1, .bool r.2.2])
noncomputable def cadastreref6_value_dec (v : AV UU) (_ : List (List (AV UU))) : Option (S44 × Int × Bool) :=
asT v fun q1 =>
popA q1 fun p2 q3 =>
as_s44 (.pv p2) fun r0 =>
popA q3 fun p4 q5 =>
asI .i64 (.pv p4) fun r1 =>
popA q5 fun p6 q7 =>
asB (.pv p6) fun r2 =>
popN q7 <|
some (r0, r1, r2)
theorem cadastreref6_value_dec_enc (v : AV UU) (b : List (List (AV UU))) (r : S44 × Int × Bool) (h : cadastreref6_value_dec v b = some r) : v = cadastreref6_value_enc r := by
  unfold cadastreref6_value_dec at h
  replace h := asT_inv h; obtain ⟨q1, rfl, h⟩ := h
  replace h := popA_inv h; obtain ⟨p2, q3, rfl, h⟩ := h
  replace h := as_s44_inv h; obtain ⟨r0, e, h⟩ := h; cases e
  replace h := popA_inv h; obtain ⟨p4, q5, rfl, h⟩ := h
  replace h := asI_inv h; obtain ⟨r1, e, h⟩ := h; cases e
  replace h := popA_inv h; obtain ⟨p6, q7, rfl, h⟩ := h
  replace h := asB_inv h; obtain ⟨r2, e, h⟩ := h; cases e
  replace h := popN_inv h; obtain ⟨rfl, h⟩ := h
  cases h
  rfl
theorem cadastreref6_value_eq (k : Nat) (t0 : Int) (b1 : List Int) : bodyK UX (cadastreref6_value_cfg k) (cadastreref6_value_G k) Try.f67 [.pv (.int .u64 t0), .pv (.typ (.li_u8 b1))] [] cadastreref6_value_dec = cadastreref6_value k t0 b1 := by kernel_rfl
theorem cadastreref6_value_con (k : Nat) (t0 : Int) (b1 : List Int) (r : S44 × Int × Bool) (h : cadastreref6_value k t0 b1 = some r) : Con (X := UX) Try.prog 67 [.pv (.int .u64 t0), .pv (.typ (.li_u8 b1))] [] (cadastreref6_value_enc r) [] :=
  con_of_body xok tok Try.func67 cadastreref6_value_body (cadastreref6_value_gok k) rfl (cadastreref6_value_cok k) (of_decide_eq_true (by kernel_rfl)) cadastreref6_value_dec_enc ((cadastreref6_value_eq k t0 b1).trans h)
noncomputable def cadastreref6_value_an {ρ : Type} (k : Nat) : An UX ρ := fun args bx K =>
popA args fun v1 a2 =>
asI .u64 v1 fun t0 =>
popA a2 fun v3 a4 =>
as_li_u8 v3 fun b1 =>
popN a4 <|
popN bx <|
(cadastreref6_value k t0 b1).bind fun r => K (cadastreref6_value_enc r) []
theorem cadastreref6_value_ok {ρ : Type} (k : Nat) : AnsOK Try.prog 67 (cadastreref6_value_an (ρ := ρ) k) := by
  intro args bx K r h
  unfold cadastreref6_value_an at h
  replace h := popA_inv h; obtain ⟨v1, a2, rfl, h⟩ := h
  replace h := asI_inv h; obtain ⟨t0, rfl, h⟩ := h
  replace h := popA_inv h; obtain ⟨v3, a4, rfl, h⟩ := h
  replace h := as_li_u8_inv h; obtain ⟨b1, rfl, h⟩ := h
  replace h := popN_inv h; obtain ⟨rfl, h⟩ := h
  replace h := popN_inv h; obtain ⟨rfl, h⟩ := h
  replace h := bind_inv h
  obtain ⟨x, hx, h⟩ := h
  exact ⟨there_of Try.func67 (by kernel_rfl) cadastreref6_value_body, _, _, h, cadastreref6_value_con k t0 b1 x hx⟩

/-! cadastre/cadastreref6.Decode -/
noncomputable def cadastreref6_Decode_code : Code := match Try.f46.body with | some c => c | none => .skip
theorem cadastreref6_Decode_body : Try.f46.body = some cadastreref6_Decode_code := by kernel_rfl
noncomputable def cadastreref6_Decode_G {ρ : Type} (k : Nat) : Ans UX ρ := gk 58 (cadastreref1_Get_an k) (gk 67 (cadastreref6_value_an k) (gk 56 (cadastreref6_Record_an k) (gk 24 (cadastreref0_EqBytes_an k) (gnil))))
theorem cadastreref6_Decode_gok {ρ : Type} (k : Nat) : GOK Try.prog (cadastreref6_Decode_G (ρ := ρ) k) := gok_cons (cadastreref1_Get_ok k) (gok_cons (cadastreref6_value_ok k) (gok_cons (cadastreref6_Record_ok k) (gok_cons (cadastreref0_EqBytes_ok k) (gok_nil))))
noncomputable def cadastreref6_Decode_l6_s {ρ : Type} (k : Nat) : Run UX ρ := fun s K =>
popS 0 s.env fun v1 e2 =>
as_li_u8 v1 fun b0 =>
popS 4 e2 fun v3 e4 =>
asI .u64 v3 fun n4 =>
popS 5 e4 fun v5 e6 =>
asI .i64 v5 fun at5 =>
popS 6 e6 fun v7 e8 =>
asO_li_u64 v7 fun types6 =>
popS 7 e8 fun v9 e10 =>
asI .u64 v9 fun i7 =>
popN e10 <|
popN s.hp <|
cadastreref6_Decode_l6 k (fun t2 t3 => K .ret ⟨[(2, .own (.l44 t2)), (3, .pv (.bool t3))], []⟩) (fun b0 at5 types6 => K (.exit 0) ⟨[(0, .pv (.typ (.li_u8 b0))), (5, .pv (.int .i64 at5)), (6, .own (.li_u64 types6))], []⟩) k b0 n4 at5 types6 i7
noncomputable def cadastreref6_Decode_l15_s {ρ : Type} (k : Nat) : Run UX ρ := fun s K =>
popS 0 s.env fun v1 e2 =>
as_li_u8 v1 fun b0 =>
popS 5 e2 fun v3 e4 =>
asI .i64 v3 fun at5 =>
popS 6 e4 fun v5 e6 =>
asO_li_u64 v5 fun types6 =>
popS 10 e6 fun v7 e8 =>
asO_l44 v7 fun l10 =>
popS 11 e8 fun v9 e10 =>
asI .i64 v9 fun i11 =>
popN e10 <|
popN s.hp <|
cadastreref6_Decode_l15 k (fun t2 t3 => K .ret ⟨[(2, .own (.l44 t2)), (3, .pv (.bool t3))], []⟩) (fun b0 at5 l10 => K (.exit 2) ⟨[(0, .pv (.typ (.li_u8 b0))), (5, .pv (.int .i64 at5)), (10, .own (.l44 l10))], []⟩) k b0 at5 types6 l10 i11
noncomputable def cadastreref6_Decode_j4_s {ρ : Type} (k : Nat) : Run UX ρ := fun s K =>
popS 0 s.env fun v1 e2 =>
as_li_u8 v1 fun b0 =>
popS 4 e2 fun v3 e4 =>
asI .u64 v3 fun n4 =>
popS 5 e4 fun v5 e6 =>
asI .i64 v5 fun at5 =>
popN e6 <|
popN s.hp <|
cadastreref6_Decode_j4 k (fun t2 t3 => K .ret ⟨[(2, .own (.l44 t2)), (3, .pv (.bool t3))], []⟩) (fun t2 t3 => K .ret ⟨[(2, .pv (.typ (.l44 t2))), (3, .pv (.bool t3))], []⟩) b0 n4 at5
noncomputable def cadastreref6_Decode_cfg {ρ : Type} (k : Nat) : Cfg UX ρ where
  live i := (assoc [(0, [0]), (1, [0]), (2, [0, 4, 5]), (3, []), (4, [0, 4, 5]), (5, [0, 4, 5, 6]), (6, [0, 4, 5, 6, 7]), (7, [0, 4, 5, 6, 7]), (8, [0, 4, 5, 6, 7]), (9, [0, 4, 5, 6, 7, 8, 9]), (10, []), (11, [0, 4, 5, 6, 7, 8, 9]), (12, [0, 4, 5, 6, 7, 9]), (13, [0, 5, 6]), (14, [0, 5, 6, 10]), (15, [0, 5, 6, 10, 11]), (16, [0, 5, 6, 10, 11]), (17, [0, 5, 6, 10, 11]), (18, [0, 5, 6, 10, 11, 12, 13, 14]), (19, []), (20, [0, 5, 6, 10, 11, 12, 13]), (21, [0, 5, 6, 10, 11, 13]), (22, [0, 5, 10]), (23, []), (24, [10])] i).getD []
  boxes i := (assoc [(0, []), (1, []), (2, []), (3, []), (4, []), (5, []), (6, []), (7, []), (8, []), (9, []), (10, []), (11, []), (12, []), (13, []), (14, []), (15, []), (16, []), (17, []), (18, [12]), (19, []), (20, [12]), (21, []), (22, []), (23, []), (24, [])] i).getD []
  tk i := (assoc [(1000000, [2, 6, 10])] i).getD []
  n := 91
  labelR l := (assoc [] l).getD 0
  loops := assoc [(6, cadastreref6_Decode_l6_s k), (15, cadastreref6_Decode_l15_s k)]
  labels := assoc []
  joins := assoc [(4, cadastreref6_Decode_j4_s k)]
  xl i e := match e with
    | .nxt => assoc [] i
    | .ret => assoc [(6, ([2, 3], [])), (15, ([2, 3], [])), (4, ([2, 3], []))] i
    | .exit j => (assoc [(6, [(0, ([0, 5, 6], []))]), (15, [(2, ([0, 5, 10], []))])] i).bind fun l => assoc l j
    | .goto j => (assoc [] i).bind fun l => assoc l j
noncomputable def cadastreref6_Decode_L : List Code := selI [6, 15] (loopsOf cadastreref6_Decode_code)
noncomputable def cadastreref6_Decode_J : List Code := selI [4] (joinsOf cadastreref6_Decode_code)
noncomputable def cadastreref6_Decode_S : List Code := scopesOf cadastreref6_Decode_code
theorem cadastreref6_Decode_l6_eq0 {ρ : Type} (k : Nat) (K : Ex → St UU → Option ρ) : ∀ (n : Nat) (v : (List Int) × Int × Int × (List Int) × Int), iterK UX (fun s => s.at (cadastreref6_Decode_cfg (ρ := ρ) k).live (cadastreref6_Decode_cfg (ρ := ρ) k).boxes (some 6)) (exec UX (cadastreref6_Decode_cfg k) (cadastreref6_Decode_G k) (cadastreref6_Decode_L.getD 0 .skip)) n ⟨[(0, .pv (.typ (.li_u8 v.1))), (4, .pv (.int .u64 v.2.1)), (5, .pv (.int .i64 v.2.2.1)), (6, .own (.li_u64 v.2.2.2.1)), (7, .pv (.int .u64 v.2.2.2.2))], []⟩ (nrmK UX (cadastreref6_Decode_cfg k) 6 K) = cadastreref6_Decode_l6 k (fun t2 t3 => K .ret ⟨[(2, .own (.l44 t2)), (3, .pv (.bool t3))], []⟩) (fun b0 at5 types6 => K (.exit 0) ⟨[(0, .pv (.typ (.li_u8 b0))), (5, .pv (.int .i64 at5)), (6, .own (.li_u64 types6))], []⟩) n v.1 v.2.1 v.2.2.1 v.2.2.2.1 v.2.2.2.2 :=
  iter_rec (X := UX) (fun v => ⟨[(0, .pv (.typ (.li_u8 v.1))), (4, .pv (.int .u64 v.2.1)), (5, .pv (.int .i64 v.2.2.1)), (6, .own (.li_u64 v.2.2.2.1)), (7, .pv (.int .u64 v.2.2.2.2))], []⟩) (fun rec v => cadastreref6_Decode_l6_b k (fun t2 t3 => K .ret ⟨[(2, .own (.l44 t2)), (3, .pv (.bool t3))], []⟩) (fun b0 at5 types6 => K (.exit 0) ⟨[(0, .pv (.typ (.li_u8 b0))), (5, .pv (.int .i64 at5)), (6, .own (.li_u64 types6))], []⟩) (fun b0 n4 at5 types6 i7 => rec (b0, n4, at5, types6, i7)) v.1 v.2.1 v.2.2.1 v.2.2.2.1 v.2.2.2.2) (fun n v => cadastreref6_Decode_l6 k (fun t2 t3 => K .ret ⟨[(2, .own (.l44 t2)), (3, .pv (.bool t3))], []⟩) (fun b0 at5 types6 => K (.exit 0) ⟨[(0, .pv (.typ (.li_u8 b0))), (5, .pv (.int .i64 at5)), (6, .own (.li_u64 types6))], []⟩) n v.1 v.2.1 v.2.2.1 v.2.2.2.1 v.2.2.2.2) (fun n v => by kernel_rfl) (fun _ => rfl) (fun _ _ => rfl)
theorem cadastreref6_Decode_l6_ok0 {ρ : Type} (k : Nat) : IterOK UX (cadastreref6_Decode_cfg (ρ := ρ) k) (cadastreref6_Decode_G k) (cadastreref6_Decode_L.getD 0 .skip) 6 (cadastreref6_Decode_l6_s k) := by
  intro s K r h
  obtain ⟨env, hp⟩ := s
  unfold cadastreref6_Decode_l6_s at h
  replace h := popS_inv h; obtain ⟨v1, e2, rfl, h⟩ := h
  replace h := as_li_u8_inv h; obtain ⟨b0, rfl, h⟩ := h
  replace h := popS_inv h; obtain ⟨v3, e4, rfl, h⟩ := h
  replace h := asI_inv h; obtain ⟨n4, rfl, h⟩ := h
  replace h := popS_inv h; obtain ⟨v5, e6, rfl, h⟩ := h
  replace h := asI_inv h; obtain ⟨at5, rfl, h⟩ := h
  replace h := popS_inv h; obtain ⟨v7, e8, rfl, h⟩ := h
  replace h := asO_li_u64_inv h; obtain ⟨types6, rfl, h⟩ := h
  replace h := popS_inv h; obtain ⟨v9, e10, rfl, h⟩ := h
  replace h := asI_inv h; obtain ⟨i7, rfl, h⟩ := h
  replace h := popN_inv h; obtain ⟨rfl, h⟩ := h
  replace h := popN_inv h; obtain ⟨rfl, h⟩ := h
  exact ⟨k, (cadastreref6_Decode_l6_eq0 k K k (b0, n4, at5, types6, i7)).trans h⟩
theorem cadastreref6_Decode_l15_eq1 {ρ : Type} (k : Nat) (K : Ex → St UU → Option ρ) : ∀ (n : Nat) (v : (List Int) × Int × (List Int) × (List S44) × Int), iterK UX (fun s => s.at (cadastreref6_Decode_cfg (ρ := ρ) k).live (cadastreref6_Decode_cfg (ρ := ρ) k).boxes (some 15)) (exec UX (cadastreref6_Decode_cfg k) (cadastreref6_Decode_G k) (cadastreref6_Decode_L.getD 1 .skip)) n ⟨[(0, .pv (.typ (.li_u8 v.1))), (5, .pv (.int .i64 v.2.1)), (6, .own (.li_u64 v.2.2.1)), (10, .own (.l44 v.2.2.2.1)), (11, .pv (.int .i64 v.2.2.2.2))], []⟩ (nrmK UX (cadastreref6_Decode_cfg k) 15 K) = cadastreref6_Decode_l15 k (fun t2 t3 => K .ret ⟨[(2, .own (.l44 t2)), (3, .pv (.bool t3))], []⟩) (fun b0 at5 l10 => K (.exit 2) ⟨[(0, .pv (.typ (.li_u8 b0))), (5, .pv (.int .i64 at5)), (10, .own (.l44 l10))], []⟩) n v.1 v.2.1 v.2.2.1 v.2.2.2.1 v.2.2.2.2 :=
  iter_rec (X := UX) (fun v => ⟨[(0, .pv (.typ (.li_u8 v.1))), (5, .pv (.int .i64 v.2.1)), (6, .own (.li_u64 v.2.2.1)), (10, .own (.l44 v.2.2.2.1)), (11, .pv (.int .i64 v.2.2.2.2))], []⟩) (fun rec v => cadastreref6_Decode_l15_b k (fun t2 t3 => K .ret ⟨[(2, .own (.l44 t2)), (3, .pv (.bool t3))], []⟩) (fun b0 at5 l10 => K (.exit 2) ⟨[(0, .pv (.typ (.li_u8 b0))), (5, .pv (.int .i64 at5)), (10, .own (.l44 l10))], []⟩) (fun b0 at5 types6 l10 i11 => rec (b0, at5, types6, l10, i11)) v.1 v.2.1 v.2.2.1 v.2.2.2.1 v.2.2.2.2) (fun n v => cadastreref6_Decode_l15 k (fun t2 t3 => K .ret ⟨[(2, .own (.l44 t2)), (3, .pv (.bool t3))], []⟩) (fun b0 at5 l10 => K (.exit 2) ⟨[(0, .pv (.typ (.li_u8 b0))), (5, .pv (.int .i64 at5)), (10, .own (.l44 l10))], []⟩) n v.1 v.2.1 v.2.2.1 v.2.2.2.1 v.2.2.2.2) (fun n v => by kernel_rfl) (fun _ => rfl) (fun _ _ => rfl)
theorem cadastreref6_Decode_l15_ok1 {ρ : Type} (k : Nat) : IterOK UX (cadastreref6_Decode_cfg (ρ := ρ) k) (cadastreref6_Decode_G k) (cadastreref6_Decode_L.getD 1 .skip) 15 (cadastreref6_Decode_l15_s k) := by
  intro s K r h
  obtain ⟨env, hp⟩ := s
  unfold cadastreref6_Decode_l15_s at h
  replace h := popS_inv h; obtain ⟨v1, e2, rfl, h⟩ := h
  replace h := as_li_u8_inv h; obtain ⟨b0, rfl, h⟩ := h
  replace h := popS_inv h; obtain ⟨v3, e4, rfl, h⟩ := h
  replace h := asI_inv h; obtain ⟨at5, rfl, h⟩ := h
  replace h := popS_inv h; obtain ⟨v5, e6, rfl, h⟩ := h
  replace h := asO_li_u64_inv h; obtain ⟨types6, rfl, h⟩ := h
  replace h := popS_inv h; obtain ⟨v7, e8, rfl, h⟩ := h
  replace h := asO_l44_inv h; obtain ⟨l10, rfl, h⟩ := h
  replace h := popS_inv h; obtain ⟨v9, e10, rfl, h⟩ := h
  replace h := asI_inv h; obtain ⟨i11, rfl, h⟩ := h
  replace h := popN_inv h; obtain ⟨rfl, h⟩ := h
  replace h := popN_inv h; obtain ⟨rfl, h⟩ := h
  exact ⟨k, (cadastreref6_Decode_l15_eq1 k K k (b0, at5, types6, l10, i11)).trans h⟩
theorem cadastreref6_Decode_j4_eq0 {ρ : Type} (k : Nat) (K : Ex → St UU → Option ρ) (b0 : List Int) (n4 : Int) (at5 : Int) : exec UX (cadastreref6_Decode_cfg k) (cadastreref6_Decode_G k) (cadastreref6_Decode_J.getD 0 .skip) ⟨[(0, .pv (.typ (.li_u8 b0))), (4, .pv (.int .u64 n4)), (5, .pv (.int .i64 at5))], []⟩ (nrmK UX (cadastreref6_Decode_cfg k) 4 K) = cadastreref6_Decode_j4 k (fun t2 t3 => K .ret ⟨[(2, .own (.l44 t2)), (3, .pv (.bool t3))], []⟩) (fun t2 t3 => K .ret ⟨[(2, .pv (.typ (.l44 t2))), (3, .pv (.bool t3))], []⟩) b0 n4 at5 := by kernel_rfl
theorem cadastreref6_Decode_j4_ok0 {ρ : Type} (k : Nat) : JoinOK UX (cadastreref6_Decode_cfg (ρ := ρ) k) (cadastreref6_Decode_G k) (cadastreref6_Decode_J.getD 0 .skip) 4 (cadastreref6_Decode_j4_s k) := by
  intro s K r h
  obtain ⟨env, hp⟩ := s
  unfold cadastreref6_Decode_j4_s at h
  replace h := popS_inv h; obtain ⟨v1, e2, rfl, h⟩ := h
  replace h := as_li_u8_inv h; obtain ⟨b0, rfl, h⟩ := h
  replace h := popS_inv h; obtain ⟨v3, e4, rfl, h⟩ := h
  replace h := asI_inv h; obtain ⟨n4, rfl, h⟩ := h
  replace h := popS_inv h; obtain ⟨v5, e6, rfl, h⟩ := h
  replace h := asI_inv h; obtain ⟨at5, rfl, h⟩ := h
  replace h := popN_inv h; obtain ⟨rfl, h⟩ := h
  replace h := popN_inv h; obtain ⟨rfl, h⟩ := h
  exact (cadastreref6_Decode_j4_eq0 k K b0 n4 at5).trans h
theorem cadastreref6_Decode_cok {ρ : Type} (k : Nat) : COK (cadastreref6_Decode_cfg (ρ := ρ) k) (cadastreref6_Decode_G k) cadastreref6_Decode_code :=
  cok_of (tl := [(6, cadastreref6_Decode_l6_s k), (15, cadastreref6_Decode_l15_s k)]) (tj := [(4, cadastreref6_Decode_j4_s k)]) (tb := []) rfl rfl rfl (all_nth 2 (by kernel_rfl) ⟨iter_case (by kernel_rfl) rfl (cadastreref6_Decode_l15_ok1 k), iter_case (by kernel_rfl) rfl (cadastreref6_Decode_l6_ok0 k), trivial⟩) (all_nth 1 (by kernel_rfl) ⟨join_case (by kernel_rfl) rfl (cadastreref6_Decode_j4_ok0 k), trivial⟩) (fun p hp => by cases hp)
noncomputable def cadastreref6_Decode_enc (r : (List S44) × Bool) : AV UU := .pv (.tup [.typ (.l44 r.1), .bool r.2])
noncomputable def cadastreref6_Decode_dec (v : AV UU) (_ : List (List (AV UU))) : Option ((List S44) × Bool) :=
asT v fun q1 =>
popA q1 fun p2 q3 =>
as_l44 (.pv p2) fun r0 =>
popA q3 fun p4 q5 =>
asB (.pv p4) fun r1 =>
popN q5 <|
some (r0, r1)
theorem cadastreref6_Decode_dec_enc (v : AV UU) (b : List (List (AV UU))) (r : (List S44) × Bool) (h : cadastreref6_Decode_dec v b = some r) : v = cadastreref6_Decode_enc r := by
  unfold cadastreref6_Decode_dec at h
  replace h := asT_inv h; obtain ⟨q1, rfl, h⟩ := h
  replace h := popA_inv h; obtain ⟨p2, q3, rfl, h⟩ := h
  replace h := as_l44_inv h; obtain ⟨r0, e, h⟩ := h; cases e
  replace h := popA_inv h; obtain ⟨p4, q5, rfl, h⟩ := h
  replace h := asB_inv h; obtain ⟨r1, e, h⟩ := h; cases e
  replace h := popN_inv h; obtain ⟨rfl, h⟩ := h
  cases h
  rfl
theorem cadastreref6_Decode_eq (k : Nat) (b0 : List Int) : bodyK UX (cadastreref6_Decode_cfg k) (cadastreref6_Decode_G k) Try.f46 [.pv (.typ (.li_u8 b0))] [] cadastreref6_Decode_dec = cadastreref6_Decode k b0 := by kernel_rfl
theorem cadastreref6_Decode_con (k : Nat) (b0 : List Int) (r : (List S44) × Bool) (h : cadastreref6_Decode k b0 = some r) : Con (X := UX) Try.prog 46 [.pv (.typ (.li_u8 b0))] [] (cadastreref6_Decode_enc r) [] :=
  con_of_body xok tok Try.func46 cadastreref6_Decode_body (cadastreref6_Decode_gok k) rfl (cadastreref6_Decode_cok k) (of_decide_eq_true (by kernel_rfl)) cadastreref6_Decode_dec_enc ((cadastreref6_Decode_eq k b0).trans h)
noncomputable def cadastreref6_Decode_an {ρ : Type} (k : Nat) : An UX ρ := fun args bx K =>
popA args fun v1 a2 =>
as_li_u8 v1 fun b0 =>
popN a2 <|
popN bx <|
(cadastreref6_Decode k b0).bind fun r => K (cadastreref6_Decode_enc r) []
theorem cadastreref6_Decode_ok {ρ : Type} (k : Nat) : AnsOK Try.prog 46 (cadastreref6_Decode_an (ρ := ρ) k) := by
  intro args bx K r h
  unfold cadastreref6_Decode_an at h
  replace h := popA_inv h; obtain ⟨v1, a2, rfl, h⟩ := h
  replace h := as_li_u8_inv h; obtain ⟨b0, rfl, h⟩ := h
  replace h := popN_inv h; obtain ⟨rfl, h⟩ := h
  replace h := popN_inv h; obtain ⟨rfl, h⟩ := h
  replace h := bind_inv h
  obtain ⟨x, hx, h⟩ := h
  exact ⟨there_of Try.func46 (by kernel_rfl) cadastreref6_Decode_body, _, _, h, cadastreref6_Decode_con k b0 x hx⟩

/-! cadastre/cadastreref0.CopyBytes -/
noncomputable def cadastreref0_CopyBytes_code : Code := match Try.f33.body with | some c => c | none => .skip
theorem cadastreref0_CopyBytes_body : Try.f33.body = some cadastreref0_CopyBytes_code := by kernel_rfl
noncomputable def cadastreref0_CopyBytes_G {ρ : Type} (k : Nat) : Ans UX ρ := gnil
theorem cadastreref0_CopyBytes_gok {ρ : Type} (k : Nat) : GOK Try.prog (cadastreref0_CopyBytes_G (ρ := ρ) k) := gok_nil
noncomputable def cadastreref0_CopyBytes_l3_s {ρ : Type} (k : Nat) : Run UX ρ := fun s K =>
popS 0 s.env fun v1 e2 =>
as_li_u8 v1 fun l0 =>
popS 3 e2 fun v3 e4 =>
asO_li_u8 v3 fun m3 =>
popS 4 e4 fun v5 e6 =>
asI .i64 v5 fun i4 =>
popN e6 <|
popN s.hp <|
cadastreref0_CopyBytes_l3 k (fun m3 => K (.exit 0) ⟨[(3, .own (.li_u8 m3))], []⟩) k l0 m3 i4
noncomputable def cadastreref0_CopyBytes_cfg {ρ : Type} (k : Nat) : Cfg UX ρ where
  live i := (assoc [(0, [0]), (1, [0]), (2, [0, 3]), (3, [0, 3, 4]), (4, [0, 3, 4]), (5, [0, 3, 4]), (6, [3])] i).getD []
  boxes i := (assoc [(0, []), (1, []), (2, []), (3, []), (4, []), (5, []), (6, [])] i).getD []
  tk i := (assoc [(1000000, [2, 3])] i).getD []
  n := 19
  labelR l := (assoc [] l).getD 0
  loops := assoc [(3, cadastreref0_CopyBytes_l3_s k)]
  labels := assoc []
  joins := assoc []
  xl i e := match e with
    | .nxt => assoc [] i
    | .ret => assoc [] i
    | .exit j => (assoc [(3, [(0, ([3], []))])] i).bind fun l => assoc l j
    | .goto j => (assoc [] i).bind fun l => assoc l j
noncomputable def cadastreref0_CopyBytes_L : List Code := selI [3] (loopsOf cadastreref0_CopyBytes_code)
noncomputable def cadastreref0_CopyBytes_J : List Code := selI [] (joinsOf cadastreref0_CopyBytes_code)
noncomputable def cadastreref0_CopyBytes_S : List Code := scopesOf cadastreref0_CopyBytes_code
theorem cadastreref0_CopyBytes_l3_eq0 {ρ : Type} (k : Nat) (K : Ex → St UU → Option ρ) : ∀ (n : Nat) (v : (List Int) × (List Int) × Int), iterK UX (fun s => s.at (cadastreref0_CopyBytes_cfg (ρ := ρ) k).live (cadastreref0_CopyBytes_cfg (ρ := ρ) k).boxes (some 3)) (exec UX (cadastreref0_CopyBytes_cfg k) (cadastreref0_CopyBytes_G k) (cadastreref0_CopyBytes_L.getD 0 .skip)) n ⟨[(0, .pv (.typ (.li_u8 v.1))), (3, .own (.li_u8 v.2.1)), (4, .pv (.int .i64 v.2.2))], []⟩ (nrmK UX (cadastreref0_CopyBytes_cfg k) 3 K) = cadastreref0_CopyBytes_l3 k (fun m3 => K (.exit 0) ⟨[(3, .own (.li_u8 m3))], []⟩) n v.1 v.2.1 v.2.2 :=
  iter_rec (X := UX) (fun v => ⟨[(0, .pv (.typ (.li_u8 v.1))), (3, .own (.li_u8 v.2.1)), (4, .pv (.int .i64 v.2.2))], []⟩) (fun rec v => cadastreref0_CopyBytes_l3_b k (fun m3 => K (.exit 0) ⟨[(3, .own (.li_u8 m3))], []⟩) (fun l0 m3 i4 => rec (l0, m3, i4)) v.1 v.2.1 v.2.2) (fun n v => cadastreref0_CopyBytes_l3 k (fun m3 => K (.exit 0) ⟨[(3, .own (.li_u8 m3))], []⟩) n v.1 v.2.1 v.2.2) (fun n v => by kernel_rfl) (fun _ => rfl) (fun _ _ => rfl)
theorem cadastreref0_CopyBytes_l3_ok0 {ρ : Type} (k : Nat) : IterOK UX (cadastreref0_CopyBytes_cfg (ρ := ρ) k) (cadastreref0_CopyBytes_G k) (cadastreref0_CopyBytes_L.getD 0 .skip) 3 (cadastreref0_CopyBytes_l3_s k) := by
  intro s K r h
  obtain ⟨env, hp⟩ := s
  unfold cadastreref0_CopyBytes_l3_s at h
  replace h := popS_inv h; obtain ⟨v1, e2, rfl, h⟩ := h
  replace h := as_li_u8_inv h; obtain ⟨l0, rfl, h⟩ := h
  replace h := popS_inv h; obtain ⟨v3, e4, rfl, h⟩ := h
  replace h := asO_li_u8_inv h; obtain ⟨m3, rfl, h⟩ := h
  replace h := popS_inv h; obtain ⟨v5, e6, rfl, h⟩ := h
  replace h := asI_inv h; obtain ⟨i4, rfl, h⟩ := h
  replace h := popN_inv h; obtain ⟨rfl, h⟩ := h
  replace h := popN_inv h; obtain ⟨rfl, h⟩ := h
  exact ⟨k, (cadastreref0_CopyBytes_l3_eq0 k K k (l0, m3, i4)).trans h⟩
theorem cadastreref0_CopyBytes_cok {ρ : Type} (k : Nat) : COK (cadastreref0_CopyBytes_cfg (ρ := ρ) k) (cadastreref0_CopyBytes_G k) cadastreref0_CopyBytes_code :=
  cok_of (tl := [(3, cadastreref0_CopyBytes_l3_s k)]) (tj := []) (tb := []) rfl rfl rfl (all_nth 1 (by kernel_rfl) ⟨iter_case (by kernel_rfl) rfl (cadastreref0_CopyBytes_l3_ok0 k), trivial⟩) (nil_all (by kernel_rfl)) (fun p hp => by cases hp)
noncomputable def cadastreref0_CopyBytes_enc (r : (List Int)) : AV UU := .own (.li_u8 r)
noncomputable def cadastreref0_CopyBytes_dec (v : AV UU) (_ : List (List (AV UU))) : Option (List Int) :=
asO_li_u8 v fun r =>
some r
theorem cadastreref0_CopyBytes_dec_enc (v : AV UU) (b : List (List (AV UU))) (r : (List Int)) (h : cadastreref0_CopyBytes_dec v b = some r) : v = cadastreref0_CopyBytes_enc r := by
  unfold cadastreref0_CopyBytes_dec at h
  replace h := asO_li_u8_inv h; obtain ⟨r, rfl, h⟩ := h
  cases h
  rfl
theorem cadastreref0_CopyBytes_eq (k : Nat) (l0 : List Int) : bodyK UX (cadastreref0_CopyBytes_cfg k) (cadastreref0_CopyBytes_G k) Try.f33 [.pv (.typ (.li_u8 l0))] [] cadastreref0_CopyBytes_dec = cadastreref0_CopyBytes k l0 := by kernel_rfl
theorem cadastreref0_CopyBytes_con (k : Nat) (l0 : List Int) (r : (List Int)) (h : cadastreref0_CopyBytes k l0 = some r) : Con (X := UX) Try.prog 33 [.pv (.typ (.li_u8 l0))] [] (cadastreref0_CopyBytes_enc r) [] :=
  con_of_body xok tok Try.func33 cadastreref0_CopyBytes_body (cadastreref0_CopyBytes_gok k) rfl (cadastreref0_CopyBytes_cok k) (of_decide_eq_true (by kernel_rfl)) cadastreref0_CopyBytes_dec_enc ((cadastreref0_CopyBytes_eq k l0).trans h)
noncomputable def cadastreref0_CopyBytes_an {ρ : Type} (k : Nat) : An UX ρ := fun args bx K =>
popA args fun v1 a2 =>
as_li_u8 v1 fun l0 =>
popN a2 <|
popN bx <|
(cadastreref0_CopyBytes k l0).bind fun r => K (cadastreref0_CopyBytes_enc r) []
theorem cadastreref0_CopyBytes_ok {ρ : Type} (k : Nat) : AnsOK Try.prog 33 (cadastreref0_CopyBytes_an (ρ := ρ) k) := by
  intro args bx K r h
  unfold cadastreref0_CopyBytes_an at h
  replace h := popA_inv h; obtain ⟨v1, a2, rfl, h⟩ := h
  replace h := as_li_u8_inv h; obtain ⟨l0, rfl, h⟩ := h
  replace h := popN_inv h; obtain ⟨rfl, h⟩ := h
  replace h := popN_inv h; obtain ⟨rfl, h⟩ := h
  replace h := bind_inv h
  obtain ⟨x, hx, h⟩ := h
  exact ⟨there_of Try.func33 (by kernel_rfl) cadastreref0_CopyBytes_body, _, _, h, cadastreref0_CopyBytes_con k l0 x hx⟩

/-! cadastre/varint.Get -/
noncomputable def varint_Get_code : Code := match Try.f68.body with | some c => c | none => .skip
theorem varint_Get_body : Try.f68.body = some varint_Get_code := by kernel_rfl
noncomputable def varint_Get_G {ρ : Type} (k : Nat) : Ans UX ρ := gnil
theorem varint_Get_gok {ρ : Type} (k : Nat) : GOK Try.prog (varint_Get_G (ρ := ρ) k) := gok_nil
noncomputable def varint_Get_j1_s {ρ : Type} (k : Nat) : Run UX ρ := fun s K =>
popS 0 s.env fun v1 e2 =>
as_li_u8 v1 fun b0 =>
popS 2 e2 fun v3 e4 =>
asI .u64 v3 fun n2 =>
popS 3 e4 fun v5 e6 =>
asI .i64 v5 fun size3 =>
popN e6 <|
popN s.hp <|
varint_Get_j1 k (fun n2 size3 e4 => K .ret ⟨[(2, .pv (.int .u64 n2)), (3, .pv (.int .i64 size3)), (4, .pv (.int .i64 e4))], []⟩) (fun b0 n2 size3 => K (.goto 0) ⟨[(0, .pv (.typ (.li_u8 b0))), (2, .pv (.int .u64 n2)), (3, .pv (.int .i64 size3))], []⟩) b0 n2 size3
noncomputable def varint_Get_g0_s {ρ : Type} (k : Nat) : Run UX ρ := fun s K =>
popS 0 s.env fun v1 e2 =>
as_li_u8 v1 fun b0 =>
popS 2 e2 fun v3 e4 =>
asI .u64 v3 fun n2 =>
popS 3 e4 fun v5 e6 =>
asI .i64 v5 fun size3 =>
popN e6 <|
popN s.hp <|
varint_Get_g0 k (fun n2 size3 e4 => K .ret ⟨[(2, .pv (.int .u64 n2)), (3, .pv (.int .i64 size3)), (4, .pv (.int .i64 e4))], []⟩) k b0 n2 size3
noncomputable def varint_Get_cfg {ρ : Type} (k : Nat) : Cfg UX ρ where
  live i := (assoc [(0, [0]), (1, [0, 2, 3]), (2, []), (3, [0, 2, 3]), (4, [0, 2, 3, 5]), (5, [0, 2, 3, 5]), (6, [2, 3, 5]), (7, [2, 3]), (8, []), (9, [2, 3]), (10, [0, 2, 3, 5]), (11, [0, 2, 3, 5]), (12, [2, 3]), (13, []), (14, [2, 3])] i).getD []
  boxes i := (assoc [(0, []), (1, []), (2, []), (3, []), (4, []), (5, []), (6, []), (7, []), (8, []), (9, []), (10, []), (11, []), (12, []), (13, []), (14, [])] i).getD []
  tk i := (assoc [] i).getD []
  n := 47
  labelR l := (assoc [(0, 1)] l).getD 0
  loops := assoc []
  labels := assoc [(0, varint_Get_g0_s k)]
  joins := assoc [(1, varint_Get_j1_s k)]
  xl i e := match e with
    | .nxt => assoc [] i
    | .ret => assoc [(1, ([2, 3, 4], [])), (1, ([2, 3, 4], []))] i
    | .exit j => (assoc [] i).bind fun l => assoc l j
    | .goto j => (assoc [(1, [(0, ([0, 2, 3], []))])] i).bind fun l => assoc l j
noncomputable def varint_Get_L : List Code := selI [] (loopsOf varint_Get_code)
noncomputable def varint_Get_J : List Code := selI [1] (joinsOf varint_Get_code)
noncomputable def varint_Get_S : List Code := scopesOf varint_Get_code
theorem varint_Get_j1_eq0 {ρ : Type} (k : Nat) (K : Ex → St UU → Option ρ) (b0 : List Int) (n2 : Int) (size3 : Int) : exec UX (varint_Get_cfg k) (varint_Get_G k) (varint_Get_J.getD 0 .skip) ⟨[(0, .pv (.typ (.li_u8 b0))), (2, .pv (.int .u64 n2)), (3, .pv (.int .i64 size3))], []⟩ (nrmK UX (varint_Get_cfg k) 1 K) = varint_Get_j1 k (fun n2 size3 e4 => K .ret ⟨[(2, .pv (.int .u64 n2)), (3, .pv (.int .i64 size3)), (4, .pv (.int .i64 e4))], []⟩) (fun b0 n2 size3 => K (.goto 0) ⟨[(0, .pv (.typ (.li_u8 b0))), (2, .pv (.int .u64 n2)), (3, .pv (.int .i64 size3))], []⟩) b0 n2 size3 := by kernel_rfl
theorem varint_Get_j1_ok0 {ρ : Type} (k : Nat) : JoinOK UX (varint_Get_cfg (ρ := ρ) k) (varint_Get_G k) (varint_Get_J.getD 0 .skip) 1 (varint_Get_j1_s k) := by
  intro s K r h
  obtain ⟨env, hp⟩ := s
  unfold varint_Get_j1_s at h
  replace h := popS_inv h; obtain ⟨v1, e2, rfl, h⟩ := h
  replace h := as_li_u8_inv h; obtain ⟨b0, rfl, h⟩ := h
  replace h := popS_inv h; obtain ⟨v3, e4, rfl, h⟩ := h
  replace h := asI_inv h; obtain ⟨n2, rfl, h⟩ := h
  replace h := popS_inv h; obtain ⟨v5, e6, rfl, h⟩ := h
  replace h := asI_inv h; obtain ⟨size3, rfl, h⟩ := h
  replace h := popN_inv h; obtain ⟨rfl, h⟩ := h
  replace h := popN_inv h; obtain ⟨rfl, h⟩ := h
  exact (varint_Get_j1_eq0 k K b0 n2 size3).trans h
noncomputable def varint_Get_g0_f0 {ρ : Type} (k : Nat) : Run UX ρ := (suff UX (varint_Get_cfg k) (varint_Get_G k) (varint_Get_S.getD 0 .skip) 0).getD fun _ _ => none
theorem varint_Get_g0_eq0 {ρ : Type} (k : Nat) (K : Ex → St UU → Option ρ) : ∀ (n : Nat) (v : (List Int) × Int × Int), scopeN UX (fun l s => s.at (varint_Get_cfg (ρ := ρ) k).live (varint_Get_cfg (ρ := ρ) k).boxes (some ((varint_Get_cfg (ρ := ρ) k).labelR l))) (suff UX (varint_Get_cfg k) (varint_Get_G k) (varint_Get_S.getD 0 .skip)) (fun l => ((varint_Get_cfg (ρ := ρ) k).labels l).isSome) n (varint_Get_g0_f0 k) ⟨[(0, .pv (.typ (.li_u8 v.1))), (2, .pv (.int .u64 v.2.1)), (3, .pv (.int .i64 v.2.2))], []⟩ (nrmK UX (varint_Get_cfg k) ((varint_Get_cfg (ρ := ρ) k).labelR 0) K) = varint_Get_g0 k (fun n2 size3 e4 => K .ret ⟨[(2, .pv (.int .u64 n2)), (3, .pv (.int .i64 size3)), (4, .pv (.int .i64 e4))], []⟩) n v.1 v.2.1 v.2.2 :=
  scope_rec (X := UX) (fun _ => varint_Get_g0_f0 k) (fun v => ⟨[(0, .pv (.typ (.li_u8 v.1))), (2, .pv (.int .u64 v.2.1)), (3, .pv (.int .i64 v.2.2))], []⟩) (fun rec v => varint_Get_g0_b k (fun n2 size3 e4 => K .ret ⟨[(2, .pv (.int .u64 n2)), (3, .pv (.int .i64 size3)), (4, .pv (.int .i64 e4))], []⟩) (fun b0 n2 size3 => rec (b0, n2, size3)) v.1 v.2.1 v.2.2) (fun n v => varint_Get_g0 k (fun n2 size3 e4 => K .ret ⟨[(2, .pv (.int .u64 n2)), (3, .pv (.int .i64 size3)), (4, .pv (.int .i64 e4))], []⟩) n v.1 v.2.1 v.2.2) (fun n v => by kernel_rfl) (fun _ => rfl) (fun _ _ => rfl)
theorem varint_Get_g0_ok0 {ρ : Type} (k : Nat) : LabOK UX (varint_Get_cfg (ρ := ρ) k) (varint_Get_G k) (varint_Get_S.getD 0 .skip) 0 (varint_Get_g0_s k) := by
  intro f hf s K r h
  have hf : varint_Get_g0_f0 k = f := by unfold varint_Get_g0_f0; rw [hf]; rfl
  subst hf
  obtain ⟨env, hp⟩ := s
  unfold varint_Get_g0_s at h
  replace h := popS_inv h; obtain ⟨v1, e2, rfl, h⟩ := h
  replace h := as_li_u8_inv h; obtain ⟨b0, rfl, h⟩ := h
  replace h := popS_inv h; obtain ⟨v3, e4, rfl, h⟩ := h
  replace h := asI_inv h; obtain ⟨n2, rfl, h⟩ := h
  replace h := popS_inv h; obtain ⟨v5, e6, rfl, h⟩ := h
  replace h := asI_inv h; obtain ⟨size3, rfl, h⟩ := h
  replace h := popN_inv h; obtain ⟨rfl, h⟩ := h
  replace h := popN_inv h; obtain ⟨rfl, h⟩ := h
  exact ⟨k, (varint_Get_g0_eq0 k K k (b0, n2, size3)).trans h⟩
theorem varint_Get_cok {ρ : Type} (k : Nat) : COK (varint_Get_cfg (ρ := ρ) k) (varint_Get_G k) varint_Get_code :=
  cok_of (tl := []) (tj := [(1, varint_Get_j1_s k)]) (tb := [(0, varint_Get_g0_s k)]) rfl rfl rfl (nil_all (by kernel_rfl)) (all_nth 1 (by kernel_rfl) ⟨join_case (by kernel_rfl) rfl (varint_Get_j1_ok0 k), trivial⟩) (fun p hp => by
    simp only [List.mem_cons, List.not_mem_nil, or_false] at hp
    subst hp
    · exact all_nth 1 (by kernel_rfl) ⟨varint_Get_g0_ok0 k, trivial⟩)
noncomputable def varint_Get_enc (r : Int × Int × Int) : AV UU := .pv (.tup [.int .u64 r.1, .int .i64 r.2.1, .int .i64 r.2.2])
noncomputable def varint_Get_dec (v : AV UU) (_ : List (List (AV UU))) : Option (Int × Int × Int) :=
asT v fun q1 =>
popA q1 fun p2 q3 =>
asI .u64 (.pv p2) fun r0 =>
popA q3 fun p4 q5 =>
asI .i64 (.pv p4) fun r1 =>
popA q5 fun p6 q7 =>
asI .i64 (.pv p6) fun r2 =>
popN q7 <|
some (r0, r1, r2)
theorem varint_Get_dec_enc (v : AV UU) (b : List (List (AV UU))) (r : Int × Int × Int) (h : varint_Get_dec v b = some r) : v = varint_Get_enc r := by
  unfold varint_Get_dec at h
  replace h := asT_inv h; obtain ⟨q1, rfl, h⟩ := h
  replace h := popA_inv h; obtain ⟨p2, q3, rfl, h⟩ := h
  replace h := asI_inv h; obtain ⟨r0, e, h⟩ := h; cases e
  replace h := popA_inv h; obtain ⟨p4, q5, rfl, h⟩ := h
  replace h := asI_inv h; obtain ⟨r1, e, h⟩ := h; cases e
  replace h := popA_inv h; obtain ⟨p6, q7, rfl, h⟩ := h
  replace h := asI_inv h; obtain ⟨r2, e, h⟩ := h; cases e
  replace h := popN_inv h; obtain ⟨rfl, h⟩ := h
  cases h
  rfl
theorem varint_Get_eq (k : Nat) (b0 : List Int) : bodyK UX (varint_Get_cfg k) (varint_Get_G k) Try.f68 [.pv (.typ (.li_u8 b0))] [] varint_Get_dec = varint_Get k b0 := by kernel_rfl
theorem varint_Get_con (k : Nat) (b0 : List Int) (r : Int × Int × Int) (h : varint_Get k b0 = some r) : Con (X := UX) Try.prog 68 [.pv (.typ (.li_u8 b0))] [] (varint_Get_enc r) [] :=
  con_of_body xok tok Try.func68 varint_Get_body (varint_Get_gok k) rfl (varint_Get_cok k) (of_decide_eq_true (by kernel_rfl)) varint_Get_dec_enc ((varint_Get_eq k b0).trans h)
noncomputable def varint_Get_an {ρ : Type} (k : Nat) : An UX ρ := fun args bx K =>
popA args fun v1 a2 =>
as_li_u8 v1 fun b0 =>
popN a2 <|
popN bx <|
(varint_Get k b0).bind fun r => K (varint_Get_enc r) []
theorem varint_Get_ok {ρ : Type} (k : Nat) : AnsOK Try.prog 68 (varint_Get_an (ρ := ρ) k) := by
  intro args bx K r h
  unfold varint_Get_an at h
  replace h := popA_inv h; obtain ⟨v1, a2, rfl, h⟩ := h
  replace h := as_li_u8_inv h; obtain ⟨b0, rfl, h⟩ := h
  replace h := popN_inv h; obtain ⟨rfl, h⟩ := h
  replace h := popN_inv h; obtain ⟨rfl, h⟩ := h
  replace h := bind_inv h
  obtain ⟨x, hx, h⟩ := h
  exact ⟨there_of Try.func68 (by kernel_rfl) varint_Get_body, _, _, h, varint_Get_con k b0 x hx⟩

/-! cadastre/value.Int -/
noncomputable def value_Int_code : Code := match Try.f101.body with | some c => c | none => .skip
theorem value_Int_body : Try.f101.body = some value_Int_code := by kernel_rfl
noncomputable def value_Int_G {ρ : Type} (k : Nat) : Ans UX ρ := gnil
theorem value_Int_gok {ρ : Type} (k : Nat) : GOK Try.prog (value_Int_G (ρ := ρ) k) := gok_nil
noncomputable def value_Int_cfg {ρ : Type} (k : Nat) : Cfg UX ρ where
  live i := (assoc [(0, [0]), (1, [0, 2])] i).getD []
  boxes i := (assoc [(0, []), (1, [2])] i).getD []
  tk i := (assoc [] i).getD []
  n := 5
  labelR l := (assoc [] l).getD 0
  loops := assoc []
  labels := assoc []
  joins := assoc []
  xl i e := match e with
    | .nxt => assoc [] i
    | .ret => assoc [] i
    | .exit j => (assoc [] i).bind fun l => assoc l j
    | .goto j => (assoc [] i).bind fun l => assoc l j
noncomputable def value_Int_L : List Code := selI [] (loopsOf value_Int_code)
noncomputable def value_Int_J : List Code := selI [] (joinsOf value_Int_code)
noncomputable def value_Int_S : List Code := scopesOf value_Int_code
theorem value_Int_cok {ρ : Type} (k : Nat) : COK (value_Int_cfg (ρ := ρ) k) (value_Int_G k) value_Int_code :=
  cok_of (tl := []) (tj := []) (tb := []) rfl rfl rfl (nil_all (by kernel_rfl)) (nil_all (by kernel_rfl)) (fun p hp => by cases hp)
noncomputable def value_Int_enc (r : S44) : AV UU := .pv (.typ (.s44 r))
noncomputable def value_Int_dec (v : AV UU) (_ : List (List (AV UU))) : Option S44 :=
as_s44 v fun r0 =>
some r0
theorem value_Int_dec_enc (v : AV UU) (b : List (List (AV UU))) (r : S44) (h : value_Int_dec v b = some r) : v = value_Int_enc r := by
  unfold value_Int_dec at h
  replace h := as_s44_inv h; obtain ⟨r0, rfl, h⟩ := h
  cases h
  rfl
theorem value_Int_eq (k : Nat) (n0 : Int) : bodyK UX (value_Int_cfg k) (value_Int_G k) Try.f101 [.pv (.int .i64 n0)] [] value_Int_dec = value_Int k n0 := by kernel_rfl
theorem value_Int_con (k : Nat) (n0 : Int) (r : S44) (h : value_Int k n0 = some r) : Con (X := UX) Try.prog 101 [.pv (.int .i64 n0)] [] (value_Int_enc r) [] :=
  con_of_body xok tok Try.func101 value_Int_body (value_Int_gok k) rfl (value_Int_cok k) (of_decide_eq_true (by kernel_rfl)) value_Int_dec_enc ((value_Int_eq k n0).trans h)
noncomputable def value_Int_an {ρ : Type} (k : Nat) : An UX ρ := fun args bx K =>
popA args fun v1 a2 =>
asI .i64 v1 fun n0 =>
popN a2 <|
popN bx <|
(value_Int k n0).bind fun r => K (value_Int_enc r) []
theorem value_Int_ok {ρ : Type} (k : Nat) : AnsOK Try.prog 101 (value_Int_an (ρ := ρ) k) := by
  intro args bx K r h
  unfold value_Int_an at h
  replace h := popA_inv h; obtain ⟨v1, a2, rfl, h⟩ := h
  replace h := asI_inv h; obtain ⟨n0, rfl, h⟩ := h
  replace h := popN_inv h; obtain ⟨rfl, h⟩ := h
  replace h := popN_inv h; obtain ⟨rfl, h⟩ := h
  replace h := bind_inv h
  obtain ⟨x, hx, h⟩ := h
  exact ⟨there_of Try.func101 (by kernel_rfl) value_Int_body, _, _, h, value_Int_con k n0 x hx⟩
end Go.Proofs.Ytekjibpkkgldgaa.R
