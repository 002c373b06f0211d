/-
  What the program's functions answer: the printed functions' answers.
-/
import Derived.Test.YtekjibpkkgldgaaRG3
namespace Go.Proofs.Ytekjibpkkgldgaa.R
open Go Go.AX
/-! cadastre/record.take -/
noncomputable def record_take_code : Code := match Try.f69.body with | some c => c | none => .skip
theorem record_take_body : Try.f69.body = some record_take_code := by kernel_rfl
noncomputable def record_take_G {ρ : Type} (k : Nat) : Ans UX ρ := gk 101 (value_Int_an k) (gk 72 (record_widths_an k) (gk 54 (record_kind_an k) (gnil)))
theorem record_take_gok {ρ : Type} (k : Nat) : GOK Try.prog (record_take_G (ρ := ρ) k) := gok_cons (value_Int_ok k) (gok_cons (record_widths_ok k) (gok_cons (record_kind_ok k) (gok_nil)))
noncomputable def record_take_j7_s {ρ : Type} (k : Nat) : Run UX ρ := fun s K =>
popS 0 s.env fun v1 e2 =>
asI .u64 v1 fun t0 =>
popS 1 e2 fun v3 e4 =>
as_li_u8 v3 fun b1 =>
popS 4 e4 fun v5 e6 =>
asP 4 0 v5 <|
popN e6 <|
popB 4 s.hp fun c7 e8 =>
popA c7 fun v9 c10 =>
asI .i64 v9 fun z11 =>
popA c10 fun v12 c13 =>
asI .i64 v12 fun z14 =>
popA c13 fun v15 c16 =>
asS v15 fun z17 =>
popN c16 <|
popN e8 <|
record_take_j7 k (fun t0 b1 n7 v4 => K .nxt ⟨[(0, .pv (.int .u64 t0)), (1, .pv (.typ (.li_u8 b1))), (4, .ptr 4 0), (7, .pv (.int .i64 n7))], [(4, [.pv (.int .i64 v4.f0), .pv (.int .i64 v4.f1), .pv (.str v4.f2)])]⟩) (fun rest5 is6 v4 => K .ret ⟨[(4, .ptr 4 0), (5, .pv (.typ (.li_u8 rest5))), (6, .pv (.bool is6))], [(4, [.pv (.int .i64 v4.f0), .pv (.int .i64 v4.f1), .pv (.str v4.f2)])]⟩) t0 b1 (⟨z11, z14, z17⟩ : S44)
noncomputable def record_take_j22_s {ρ : Type} (k : Nat) : Run UX ρ := fun s K =>
popS 0 s.env fun v1 e2 =>
asI .u64 v1 fun t0 =>
popS 1 e2 fun v3 e4 =>
as_li_u8 v3 fun b1 =>
popS 4 e4 fun v5 e6 =>
asP 4 0 v5 <|
popS 7 e6 fun v7 e8 =>
asI .i64 v7 fun n7 =>
popN e8 <|
popB 4 s.hp fun c9 e10 =>
popA c9 fun v11 c12 =>
asI .i64 v11 fun z13 =>
popA c12 fun v14 c15 =>
asI .i64 v14 fun z16 =>
popA c15 fun v17 c18 =>
asS v17 fun z19 =>
popN c18 <|
popN e10 <|
record_take_j22 k (fun rest5 is6 v4 => K .ret ⟨[(4, .ptr 4 0), (5, .pv (.typ (.li_u8 rest5))), (6, .pv (.bool is6))], [(4, [.pv (.int .i64 v4.f0), .pv (.int .i64 v4.f1), .pv (.str v4.f2)])]⟩) t0 b1 n7 (⟨z13, z16, z19⟩ : S44)
noncomputable def record_take_l17_s {ρ : Type} (k : Nat) : Run UX ρ := fun s K =>
popS 0 s.env fun v1 e2 =>
asI .u64 v1 fun t0 =>
popS 1 e2 fun v3 e4 =>
as_li_u8 v3 fun b1 =>
popS 4 e4 fun v5 e6 =>
asP 4 0 v5 <|
popS 7 e6 fun v7 e8 =>
asI .i64 v7 fun n7 =>
popS 8 e8 fun v9 e10 =>
asI .i64 v9 fun x8 =>
popS 69 e10 fun v11 e12 =>
as_li_u8 v11 fun t69 =>
popS 70 e12 fun v13 e14 =>
asI .i64 v13 fun t70 =>
popS 71 e14 fun v15 e16 =>
asI .i64 v15 fun t71 =>
popN e16 <|
popB 4 s.hp fun c17 e18 =>
popA c17 fun v19 c20 =>
asI .i64 v19 fun z21 =>
popA c20 fun v22 c23 =>
asI .i64 v22 fun z24 =>
popA c23 fun v25 c26 =>
asS v25 fun z27 =>
popN c26 <|
popN e18 <|
record_take_l17 k (fun t0 b1 n7 x8 v4 => K (.exit 1) ⟨[(0, .pv (.int .u64 t0)), (1, .pv (.typ (.li_u8 b1))), (4, .ptr 4 0), (7, .pv (.int .i64 n7)), (8, .pv (.int .i64 x8))], [(4, [.pv (.int .i64 v4.f0), .pv (.int .i64 v4.f1), .pv (.str v4.f2)])]⟩) k t0 b1 n7 x8 t69 t70 t71 (⟨z21, z24, z27⟩ : S44)
noncomputable def record_take_j11_s {ρ : Type} (k : Nat) : Run UX ρ := fun s K =>
popS 0 s.env fun v1 e2 =>
asI .u64 v1 fun t0 =>
popS 1 e2 fun v3 e4 =>
as_li_u8 v3 fun b1 =>
popS 4 e4 fun v5 e6 =>
asP 4 0 v5 <|
popS 7 e6 fun v7 e8 =>
asI .i64 v7 fun n7 =>
popN e8 <|
popB 4 s.hp fun c9 e10 =>
popA c9 fun v11 c12 =>
asI .i64 v11 fun z13 =>
popA c12 fun v14 c15 =>
asI .i64 v14 fun z16 =>
popA c15 fun v17 c18 =>
asS v17 fun z19 =>
popN c18 <|
popN e10 <|
record_take_j11 k (fun rest5 is6 v4 => K .ret ⟨[(4, .ptr 4 0), (5, .pv (.typ (.li_u8 rest5))), (6, .pv (.bool is6))], [(4, [.pv (.int .i64 v4.f0), .pv (.int .i64 v4.f1), .pv (.str v4.f2)])]⟩) t0 b1 n7 (⟨z13, z16, z19⟩ : S44)
noncomputable def record_take_cfg {ρ : Type} (k : Nat) : Cfg UX ρ where
  live i := (assoc [(0, [0, 1]), (1, [0, 1, 4]), (2, [0, 1, 4]), (3, [0, 1, 4]), (4, [1, 4]), (5, [0, 1, 4]), (6, [0, 1, 4]), (7, [0, 1, 4]), (8, [0, 1, 4]), (9, [0, 1, 4]), (10, [4]), (11, [0, 1, 4, 7]), (12, [4]), (13, [0, 1, 4, 7]), (14, [0, 1, 4, 7]), (15, [0, 1, 4, 7]), (16, [0, 1, 4, 7, 8]), (17, [0, 1, 4, 7, 8, 69, 70, 71]), (18, [0, 1, 4, 7, 8, 69, 70, 71]), (19, [0, 1, 4, 7, 8, 10, 69, 70, 71]), (20, [0, 1, 4, 7, 8, 69, 70, 71]), (21, [0, 1, 4, 7, 8]), (22, [0, 1, 4, 7])] i).getD []
  boxes i := (assoc [(0, []), (1, [4]), (2, [4]), (3, [4]), (4, [4]), (5, [4]), (6, [4]), (7, [4]), (8, [4]), (9, [4]), (10, [4]), (11, [4]), (12, [4]), (13, [4]), (14, [4]), (15, [4]), (16, [4]), (17, [4]), (18, [4]), (19, [4]), (20, [4]), (21, [4]), (22, [4])] i).getD []
  tk i := (assoc [] i).getD []
  n := 91
  labelR l := (assoc [] l).getD 0
  loops := assoc [(17, record_take_l17_s k)]
  labels := assoc []
  joins := assoc [(7, record_take_j7_s k), (22, record_take_j22_s k), (11, record_take_j11_s k)]
  xl i e := match e with
    | .nxt => assoc [(7, ([0, 1, 4, 7], [4]))] i
    | .ret => assoc [(7, ([4, 5, 6], [4])), (22, ([4, 5, 6], [4])), (11, ([4, 5, 6], [4]))] i
    | .exit j => (assoc [(17, [(1, ([0, 1, 4, 7, 8], [4]))])] i).bind fun l => assoc l j
    | .goto j => (assoc [] i).bind fun l => assoc l j
noncomputable def record_take_L : List Code := selI [17] (loopsOf record_take_code)
noncomputable def record_take_J : List Code := selI [7, 22, 11] (joinsOf record_take_code)
noncomputable def record_take_S : List Code := scopesOf record_take_code
theorem record_take_l17_eq0 {ρ : Type} (k : Nat) (K : Ex → St UU → Option ρ) : ∀ (n : Nat) (v : Int × (List Int) × Int × Int × (List Int) × Int × Int × S44), iterK UX (fun s => s.at (record_take_cfg (ρ := ρ) k).live (record_take_cfg (ρ := ρ) k).boxes (some 17)) (exec UX (record_take_cfg k) (record_take_G k) (record_take_L.getD 0 .skip)) n ⟨[(0, .pv (.int .u64 v.1)), (1, .pv (.typ (.li_u8 v.2.1))), (4, .ptr 4 0), (7, .pv (.int .i64 v.2.2.1)), (8, .pv (.int .i64 v.2.2.2.1)), (69, .pv (.typ (.li_u8 v.2.2.2.2.1))), (70, .pv (.int .i64 v.2.2.2.2.2.1)), (71, .pv (.int .i64 v.2.2.2.2.2.2.1))], [(4, [.pv (.int .i64 v.2.2.2.2.2.2.2.f0), .pv (.int .i64 v.2.2.2.2.2.2.2.f1), .pv (.str v.2.2.2.2.2.2.2.f2)])]⟩ (nrmK UX (record_take_cfg k) 17 K) = record_take_l17 k (fun t0 b1 n7 x8 v4 => K (.exit 1) ⟨[(0, .pv (.int .u64 t0)), (1, .pv (.typ (.li_u8 b1))), (4, .ptr 4 0), (7, .pv (.int .i64 n7)), (8, .pv (.int .i64 x8))], [(4, [.pv (.int .i64 v4.f0), .pv (.int .i64 v4.f1), .pv (.str v4.f2)])]⟩) n v.1 v.2.1 v.2.2.1 v.2.2.2.1 v.2.2.2.2.1 v.2.2.2.2.2.1 v.2.2.2.2.2.2.1 v.2.2.2.2.2.2.2 :=
  iter_rec (X := UX) (fun v => ⟨[(0, .pv (.int .u64 v.1)), (1, .pv (.typ (.li_u8 v.2.1))), (4, .ptr 4 0), (7, .pv (.int .i64 v.2.2.1)), (8, .pv (.int .i64 v.2.2.2.1)), (69, .pv (.typ (.li_u8 v.2.2.2.2.1))), (70, .pv (.int .i64 v.2.2.2.2.2.1)), (71, .pv (.int .i64 v.2.2.2.2.2.2.1))], [(4, [.pv (.int .i64 v.2.2.2.2.2.2.2.f0), .pv (.int .i64 v.2.2.2.2.2.2.2.f1), .pv (.str v.2.2.2.2.2.2.2.f2)])]⟩) (fun rec v => record_take_l17_b k (fun t0 b1 n7 x8 v4 => K (.exit 1) ⟨[(0, .pv (.int .u64 t0)), (1, .pv (.typ (.li_u8 b1))), (4, .ptr 4 0), (7, .pv (.int .i64 n7)), (8, .pv (.int .i64 x8))], [(4, [.pv (.int .i64 v4.f0), .pv (.int .i64 v4.f1), .pv (.str v4.f2)])]⟩) (fun t0 b1 n7 x8 t69 t70 t71 v4 => rec (t0, b1, n7, x8, t69, t70, t71, v4)) v.1 v.2.1 v.2.2.1 v.2.2.2.1 v.2.2.2.2.1 v.2.2.2.2.2.1 v.2.2.2.2.2.2.1 v.2.2.2.2.2.2.2) (fun n v => record_take_l17 k (fun t0 b1 n7 x8 v4 => K (.exit 1) ⟨[(0, .pv (.int .u64 t0)), (1, .pv (.typ (.li_u8 b1))), (4, .ptr 4 0), (7, .pv (.int .i64 n7)), (8, .pv (.int .i64 x8))], [(4, [.pv (.int .i64 v4.f0), .pv (.int .i64 v4.f1), .pv (.str v4.f2)])]⟩) n v.1 v.2.1 v.2.2.1 v.2.2.2.1 v.2.2.2.2.1 v.2.2.2.2.2.1 v.2.2.2.2.2.2.1 v.2.2.2.2.2.2.2) (fun n v => by kernel_rfl) (fun _ => rfl) (fun _ _ => rfl)
theorem record_take_l17_ok0 {ρ : Type} (k : Nat) : IterOK UX (record_take_cfg (ρ := ρ) k) (record_take_G k) (record_take_L.getD 0 .skip) 17 (record_take_l17_s k) := by
  intro s K r h
  obtain ⟨env, hp⟩ := s
  unfold record_take_l17_s at h
  replace h := popS_inv h; obtain ⟨v1, e2, rfl, h⟩ := h
  replace h := asI_inv h; obtain ⟨t0, rfl, h⟩ := h
  replace h := popS_inv h; obtain ⟨v3, e4, rfl, h⟩ := h
  replace h := as_li_u8_inv h; obtain ⟨b1, rfl, h⟩ := h
  replace h := popS_inv h; obtain ⟨v5, e6, rfl, h⟩ := h
  replace h := asP_inv h; obtain ⟨rfl, h⟩ := h
  replace h := popS_inv h; obtain ⟨v7, e8, rfl, h⟩ := h
  replace h := asI_inv h; obtain ⟨n7, rfl, h⟩ := h
  replace h := popS_inv h; obtain ⟨v9, e10, rfl, h⟩ := h
  replace h := asI_inv h; obtain ⟨x8, rfl, h⟩ := h
  replace h := popS_inv h; obtain ⟨v11, e12, rfl, h⟩ := h
  replace h := as_li_u8_inv h; obtain ⟨t69, rfl, h⟩ := h
  replace h := popS_inv h; obtain ⟨v13, e14, rfl, h⟩ := h
  replace h := asI_inv h; obtain ⟨t70, rfl, h⟩ := h
  replace h := popS_inv h; obtain ⟨v15, e16, rfl, h⟩ := h
  replace h := asI_inv h; obtain ⟨t71, rfl, h⟩ := h
  replace h := popN_inv h; obtain ⟨rfl, h⟩ := h
  replace h := popB_inv h; obtain ⟨c17, e18, rfl, h⟩ := h
  replace h := popA_inv h; obtain ⟨v19, c20, rfl, h⟩ := h
  replace h := asI_inv h; obtain ⟨z21, rfl, h⟩ := h
  replace h := popA_inv h; obtain ⟨v22, c23, rfl, h⟩ := h
  replace h := asI_inv h; obtain ⟨z24, rfl, h⟩ := h
  replace h := popA_inv h; obtain ⟨v25, c26, rfl, h⟩ := h
  replace h := asS_inv h; obtain ⟨z27, rfl, h⟩ := h
  replace h := popN_inv h; obtain ⟨rfl, h⟩ := h
  replace h := popN_inv h; obtain ⟨rfl, h⟩ := h
  exact ⟨k, (record_take_l17_eq0 k K k (t0, b1, n7, x8, t69, t70, t71, (⟨z21, z24, z27⟩ : S44))).trans h⟩
theorem record_take_j11_eq0 {ρ : Type} (k : Nat) (K : Ex → St UU → Option ρ) (t0 : Int) (b1 : List Int) (n7 : Int) (v4 : S44) : exec UX (record_take_cfg k) (record_take_G k) (record_take_J.getD 0 .skip) ⟨[(0, .pv (.int .u64 t0)), (1, .pv (.typ (.li_u8 b1))), (4, .ptr 4 0), (7, .pv (.int .i64 n7))], [(4, [.pv (.int .i64 v4.f0), .pv (.int .i64 v4.f1), .pv (.str v4.f2)])]⟩ (nrmK UX (record_take_cfg k) 11 K) = record_take_j11 k (fun rest5 is6 v4 => K .ret ⟨[(4, .ptr 4 0), (5, .pv (.typ (.li_u8 rest5))), (6, .pv (.bool is6))], [(4, [.pv (.int .i64 v4.f0), .pv (.int .i64 v4.f1), .pv (.str v4.f2)])]⟩) t0 b1 n7 v4 := by kernel_rfl
theorem record_take_j11_ok0 {ρ : Type} (k : Nat) : JoinOK UX (record_take_cfg (ρ := ρ) k) (record_take_G k) (record_take_J.getD 0 .skip) 11 (record_take_j11_s k) := by
  intro s K r h
  obtain ⟨env, hp⟩ := s
  unfold record_take_j11_s at h
  replace h := popS_inv h; obtain ⟨v1, e2, rfl, h⟩ := h
  replace h := asI_inv h; obtain ⟨t0, rfl, h⟩ := h
  replace h := popS_inv h; obtain ⟨v3, e4, rfl, h⟩ := h
  replace h := as_li_u8_inv h; obtain ⟨b1, rfl, h⟩ := h
  replace h := popS_inv h; obtain ⟨v5, e6, rfl, h⟩ := h
  replace h := asP_inv h; obtain ⟨rfl, h⟩ := h
  replace h := popS_inv h; obtain ⟨v7, e8, rfl, h⟩ := h
  replace h := asI_inv h; obtain ⟨n7, rfl, h⟩ := h
  replace h := popN_inv h; obtain ⟨rfl, h⟩ := h
  replace h := popB_inv h; obtain ⟨c9, e10, rfl, h⟩ := h
  replace h := popA_inv h; obtain ⟨v11, c12, rfl, h⟩ := h
  replace h := asI_inv h; obtain ⟨z13, rfl, h⟩ := h
  replace h := popA_inv h; obtain ⟨v14, c15, rfl, h⟩ := h
  replace h := asI_inv h; obtain ⟨z16, rfl, h⟩ := h
  replace h := popA_inv h; obtain ⟨v17, c18, rfl, h⟩ := h
  replace h := asS_inv h; obtain ⟨z19, rfl, h⟩ := h
  replace h := popN_inv h; obtain ⟨rfl, h⟩ := h
  replace h := popN_inv h; obtain ⟨rfl, h⟩ := h
  exact (record_take_j11_eq0 k K t0 b1 n7 (⟨z13, z16, z19⟩ : S44)).trans h
theorem record_take_j7_eq1 {ρ : Type} (k : Nat) (K : Ex → St UU → Option ρ) (t0 : Int) (b1 : List Int) (v4 : S44) : exec UX (record_take_cfg k) (record_take_G k) (record_take_J.getD 1 .skip) ⟨[(0, .pv (.int .u64 t0)), (1, .pv (.typ (.li_u8 b1))), (4, .ptr 4 0)], [(4, [.pv (.int .i64 v4.f0), .pv (.int .i64 v4.f1), .pv (.str v4.f2)])]⟩ (nrmK UX (record_take_cfg k) 7 K) = record_take_j7 k (fun t0 b1 n7 v4 => K .nxt ⟨[(0, .pv (.int .u64 t0)), (1, .pv (.typ (.li_u8 b1))), (4, .ptr 4 0), (7, .pv (.int .i64 n7))], [(4, [.pv (.int .i64 v4.f0), .pv (.int .i64 v4.f1), .pv (.str v4.f2)])]⟩) (fun rest5 is6 v4 => K .ret ⟨[(4, .ptr 4 0), (5, .pv (.typ (.li_u8 rest5))), (6, .pv (.bool is6))], [(4, [.pv (.int .i64 v4.f0), .pv (.int .i64 v4.f1), .pv (.str v4.f2)])]⟩) t0 b1 v4 := by kernel_rfl
theorem record_take_j7_ok1 {ρ : Type} (k : Nat) : JoinOK UX (record_take_cfg (ρ := ρ) k) (record_take_G k) (record_take_J.getD 1 .skip) 7 (record_take_j7_s k) := by
  intro s K r h
  obtain ⟨env, hp⟩ := s
  unfold record_take_j7_s at h
  replace h := popS_inv h; obtain ⟨v1, e2, rfl, h⟩ := h
  replace h := asI_inv h; obtain ⟨t0, rfl, h⟩ := h
  replace h := popS_inv h; obtain ⟨v3, e4, rfl, h⟩ := h
  replace h := as_li_u8_inv h; obtain ⟨b1, rfl, h⟩ := h
  replace h := popS_inv h; obtain ⟨v5, e6, rfl, h⟩ := h
  replace h := asP_inv h; obtain ⟨rfl, h⟩ := h
  replace h := popN_inv h; obtain ⟨rfl, h⟩ := h
  replace h := popB_inv h; obtain ⟨c7, e8, rfl, h⟩ := h
  replace h := popA_inv h; obtain ⟨v9, c10, rfl, h⟩ := h
  replace h := asI_inv h; obtain ⟨z11, rfl, h⟩ := h
  replace h := popA_inv h; obtain ⟨v12, c13, rfl, h⟩ := h
  replace h := asI_inv h; obtain ⟨z14, rfl, h⟩ := h
  replace h := popA_inv h; obtain ⟨v15, c16, rfl, h⟩ := h
  replace h := asS_inv h; obtain ⟨z17, rfl, h⟩ := h
  replace h := popN_inv h; obtain ⟨rfl, h⟩ := h
  replace h := popN_inv h; obtain ⟨rfl, h⟩ := h
  exact (record_take_j7_eq1 k K t0 b1 (⟨z11, z14, z17⟩ : S44)).trans h
theorem record_take_j22_eq2 {ρ : Type} (k : Nat) (K : Ex → St UU → Option ρ) (t0 : Int) (b1 : List Int) (n7 : Int) (v4 : S44) : exec UX (record_take_cfg k) (record_take_G k) (record_take_J.getD 2 .skip) ⟨[(0, .pv (.int .u64 t0)), (1, .pv (.typ (.li_u8 b1))), (4, .ptr 4 0), (7, .pv (.int .i64 n7))], [(4, [.pv (.int .i64 v4.f0), .pv (.int .i64 v4.f1), .pv (.str v4.f2)])]⟩ (nrmK UX (record_take_cfg k) 22 K) = record_take_j22 k (fun rest5 is6 v4 => K .ret ⟨[(4, .ptr 4 0), (5, .pv (.typ (.li_u8 rest5))), (6, .pv (.bool is6))], [(4, [.pv (.int .i64 v4.f0), .pv (.int .i64 v4.f1), .pv (.str v4.f2)])]⟩) t0 b1 n7 v4 := by kernel_rfl
theorem record_take_j22_ok2 {ρ : Type} (k : Nat) : JoinOK UX (record_take_cfg (ρ := ρ) k) (record_take_G k) (record_take_J.getD 2 .skip) 22 (record_take_j22_s k) := by
  intro s K r h
  obtain ⟨env, hp⟩ := s
  unfold record_take_j22_s at h
  replace h := popS_inv h; obtain ⟨v1, e2, rfl, h⟩ := h
  replace h := asI_inv h; obtain ⟨t0, rfl, h⟩ := h
  replace h := popS_inv h; obtain ⟨v3, e4, rfl, h⟩ := h
  replace h := as_li_u8_inv h; obtain ⟨b1, rfl, h⟩ := h
  replace h := popS_inv h; obtain ⟨v5, e6, rfl, h⟩ := h
  replace h := asP_inv h; obtain ⟨rfl, h⟩ := h
  replace h := popS_inv h; obtain ⟨v7, e8, rfl, h⟩ := h
  replace h := asI_inv h; obtain ⟨n7, rfl, h⟩ := h
  replace h := popN_inv h; obtain ⟨rfl, h⟩ := h
  replace h := popB_inv h; obtain ⟨c9, e10, rfl, h⟩ := h
  replace h := popA_inv h; obtain ⟨v11, c12, rfl, h⟩ := h
  replace h := asI_inv h; obtain ⟨z13, rfl, h⟩ := h
  replace h := popA_inv h; obtain ⟨v14, c15, rfl, h⟩ := h
  replace h := asI_inv h; obtain ⟨z16, rfl, h⟩ := h
  replace h := popA_inv h; obtain ⟨v17, c18, rfl, h⟩ := h
  replace h := asS_inv h; obtain ⟨z19, rfl, h⟩ := h
  replace h := popN_inv h; obtain ⟨rfl, h⟩ := h
  replace h := popN_inv h; obtain ⟨rfl, h⟩ := h
  exact (record_take_j22_eq2 k K t0 b1 n7 (⟨z13, z16, z19⟩ : S44)).trans h
theorem record_take_cok {ρ : Type} (k : Nat) : COK (record_take_cfg (ρ := ρ) k) (record_take_G k) record_take_code :=
  cok_of (tl := [(17, record_take_l17_s k)]) (tj := [(7, record_take_j7_s k), (22, record_take_j22_s k), (11, record_take_j11_s k)]) (tb := []) rfl rfl rfl (all_nth 1 (by kernel_rfl) ⟨iter_case (by kernel_rfl) rfl (record_take_l17_ok0 k), trivial⟩) (all_nth 3 (by kernel_rfl) ⟨join_case (by kernel_rfl) rfl (record_take_j22_ok2 k), join_case (by kernel_rfl) rfl (record_take_j7_ok1 k), join_case (by kernel_rfl) rfl (record_take_j11_ok0 k), trivial⟩) (fun p hp => by cases hp)
noncomputable def record_take_enc (r : S44 × (List Int) × Bool) : AV UU := .pv (.tup [.typ (.s44 r.1), .typ (.li_u8 r.2.1), .bool r.2.2])
noncomputable def record_take_dec (v : AV UU) (_ : List (List (AV UU))) : Option (S44 × (List Int) × Bool) :=
asT v fun q1 =>
popA q1 fun p2 q3 =>
as_s44 (.pv p2) fun r0 =>
popA q3 fun p4 q5 =>
as_li_u8 (.pv p4) fun r1 =>
popA q5 fun p6 q7 =>
asB (.pv p6) fun r2 =>
popN q7 <|
some (r0, r1, r2)
theorem record_take_dec_enc (v : AV UU) (b : List (List (AV UU))) (r : S44 × (List Int) × Bool) (h : record_take_dec v b = some r) : v = record_take_enc r := by
  unfold record_take_dec at h
  replace h := asT_inv h; obtain ⟨q1, rfl, h⟩ := h
  replace h := popA_inv h; obtain ⟨p2, q3, rfl, h⟩ := h
  replace h := as_s44_inv h; obtain ⟨r0, e, h⟩ := h; cases e
  replace h := popA_inv h; obtain ⟨p4, q5, rfl, h⟩ := h
  replace h := as_li_u8_inv h; obtain ⟨r1, e, h⟩ := h; cases e
  replace h := popA_inv h; obtain ⟨p6, q7, rfl, h⟩ := h
  replace h := asB_inv h; obtain ⟨r2, e, h⟩ := h; cases e
  replace h := popN_inv h; obtain ⟨rfl, h⟩ := h
  cases h
  rfl
theorem record_take_eq (k : Nat) (t0 : Int) (b1 : List Int) : bodyK UX (record_take_cfg k) (record_take_G k) Try.f69 [.pv (.int .u64 t0), .pv (.typ (.li_u8 b1))] [] record_take_dec = record_take k t0 b1 := by kernel_rfl
theorem record_take_con (k : Nat) (t0 : Int) (b1 : List Int) (r : S44 × (List Int) × Bool) (h : record_take k t0 b1 = some r) : Con (X := UX) Try.prog 69 [.pv (.int .u64 t0), .pv (.typ (.li_u8 b1))] [] (record_take_enc r) [] :=
  con_of_body xok tok Try.func69 record_take_body (record_take_gok k) rfl (record_take_cok k) (of_decide_eq_true (by kernel_rfl)) record_take_dec_enc ((record_take_eq k t0 b1).trans h)
noncomputable def record_take_an {ρ : Type} (k : Nat) : An UX ρ := fun args bx K =>
popA args fun v1 a2 =>
asI .u64 v1 fun t0 =>
popA a2 fun v3 a4 =>
as_li_u8 v3 fun b1 =>
popN a4 <|
popN bx <|
(record_take k t0 b1).bind fun r => K (record_take_enc r) []
theorem record_take_ok {ρ : Type} (k : Nat) : AnsOK Try.prog 69 (record_take_an (ρ := ρ) k) := by
  intro args bx K r h
  unfold record_take_an at h
  replace h := popA_inv h; obtain ⟨v1, a2, rfl, h⟩ := h
  replace h := asI_inv h; obtain ⟨t0, rfl, h⟩ := h
  replace h := popA_inv h; obtain ⟨v3, a4, rfl, h⟩ := h
  replace h := as_li_u8_inv h; obtain ⟨b1, rfl, h⟩ := h
  replace h := popN_inv h; obtain ⟨rfl, h⟩ := h
  replace h := popN_inv h; obtain ⟨rfl, h⟩ := h
  replace h := bind_inv h
  obtain ⟨x, hx, h⟩ := h
  exact ⟨there_of Try.func69 (by kernel_rfl) record_take_body, _, _, h, record_take_con k t0 b1 x hx⟩

/-! cadastre/record.Decode -/
noncomputable def record_Decode_code : Code := match Try.f47.body with | some c => c | none => .skip
theorem record_Decode_body : Try.f47.body = some record_Decode_code := by kernel_rfl
noncomputable def record_Decode_G {ρ : Type} (k : Nat) : Ans UX ρ := gk 68 (varint_Get_an k) (gk 69 (record_take_an k) (gnil))
theorem record_Decode_gok {ρ : Type} (k : Nat) : GOK Try.prog (record_Decode_G (ρ := ρ) k) := gok_cons (varint_Get_ok k) (gok_cons (record_take_ok k) (gok_nil))
noncomputable def record_Decode_l8_s {ρ : Type} (k : Nat) : Run UX ρ := fun s K =>
popS 4 s.env fun v1 e2 =>
asO_l44 v1 fun l4 =>
popS 5 e2 fun v3 e4 =>
asO_li_u64 v3 fun types5 =>
popS 6 e4 fun v5 e6 =>
as_li_u8 v5 fun rest6 =>
popS 38 e6 fun v7 e8 =>
asI .u64 v7 fun t38 =>
popS 39 e8 fun v9 e10 =>
asI .u64 v9 fun t39 =>
popN e10 <|
popN s.hp <|
record_Decode_l8 k (K (.goto 0) ⟨[], []⟩) (fun l4 types5 rest6 => K (.exit 0) ⟨[(4, .own (.l44 l4)), (5, .own (.li_u64 types5)), (6, .pv (.typ (.li_u8 rest6)))], []⟩) k l4 types5 rest6 t38 t39
noncomputable def record_Decode_l15_s {ρ : Type} (k : Nat) : Run UX ρ := fun s K =>
popS 4 s.env fun v1 e2 =>
asO_l44 v1 fun l4 =>
popS 5 e2 fun v3 e4 =>
asO_li_u64 v3 fun types5 =>
popS 6 e4 fun v5 e6 =>
as_li_u8 v5 fun rest6 =>
popS 57 e6 fun v7 e8 =>
asL 5 v7 <|
popS 58 e8 fun v9 e10 =>
asI .i64 v9 fun t58 =>
popS 59 e10 fun v11 e12 =>
asI .i64 v11 fun t59 =>
popN e12 <|
popN s.hp <|
record_Decode_l15 k (K (.goto 0) ⟨[], []⟩) (fun l4 rest6 => K (.exit 2) ⟨[(4, .own (.l44 l4)), (6, .pv (.typ (.li_u8 rest6)))], []⟩) k l4 types5 rest6 t58 t59
noncomputable def record_Decode_j6_s {ρ : Type} (k : Nat) : Run UX ρ := fun s K =>
popS 4 s.env fun v1 e2 =>
asO_l44 v1 fun l4 =>
popS 5 e2 fun v3 e4 =>
asO_li_u64 v3 fun types5 =>
popS 6 e4 fun v5 e6 =>
as_li_u8 v5 fun rest6 =>
popS 7 e6 fun v7 e8 =>
asI .u64 v7 fun n7 =>
popS 8 e8 fun v9 e10 =>
asI .i64 v9 fun size8 =>
popN e10 <|
popN s.hp <|
record_Decode_j6 k (K (.goto 0) ⟨[], []⟩) (fun t2 t3 => K .ret ⟨[(2, .own (.l44 t2)), (3, .pv (.int .i64 t3))], []⟩) l4 types5 rest6 n7 size8
noncomputable def record_Decode_cfg {ρ : Type} (k : Nat) : Cfg UX ρ where
  live i := (assoc [(0, [0]), (1, [0]), (2, [0, 4]), (3, [0, 4, 5]), (4, [0, 4, 5, 6]), (5, [0, 4, 5, 6, 7, 8, 9]), (6, [4, 5, 6, 7, 8]), (7, [4, 5, 6, 7]), (8, [4, 5, 6, 38, 39]), (9, [4, 5, 6, 38, 39]), (10, [4, 5, 6, 10, 11, 12, 38, 39]), (11, [4, 5, 6, 10, 11, 38, 39]), (12, [4, 5, 6, 11, 38, 39]), (13, [4, 5, 6, 38, 39]), (14, [4, 5, 6]), (15, [4, 5, 6, 57, 58, 59]), (16, [4, 5, 6, 57, 58, 59]), (17, [4, 5, 6, 14, 57, 58, 59]), (18, [4, 5, 6, 14, 15, 57, 58, 59]), (19, [4, 5, 6, 14, 15, 57, 58, 59]), (20, [4, 5, 6, 15, 16, 57, 58, 59]), (21, [4, 5, 6, 15, 57, 58, 59]), (22, [4, 5, 6, 57, 58, 59]), (23, [4, 6]), (24, [4]), (25, [])] i).getD []
  boxes i := (assoc [(0, []), (1, []), (2, []), (3, []), (4, []), (5, []), (6, []), (7, []), (8, []), (9, []), (10, []), (11, []), (12, []), (13, []), (14, []), (15, []), (16, []), (17, []), (18, [15]), (19, [15]), (20, [15]), (21, [15]), (22, []), (23, []), (24, []), (25, [])] i).getD []
  tk i := (assoc [(1000000, [2, 4, 5]), (1000001, [1])] i).getD []
  n := 81
  labelR l := (assoc [] l).getD 0
  loops := assoc [(8, record_Decode_l8_s k), (15, record_Decode_l15_s k)]
  labels := assoc []
  joins := assoc [(6, record_Decode_j6_s k)]
  xl i e := match e with
    | .nxt => assoc [] i
    | .ret => assoc [(6, ([2, 3], []))] i
    | .exit j => (assoc [(8, [(0, ([4, 5, 6], []))]), (15, [(2, ([4, 6], []))])] i).bind fun l => assoc l j
    | .goto j => (assoc [(8, [(0, ([], []))]), (15, [(0, ([], []))]), (6, [(0, ([], []))])] i).bind fun l => assoc l j
noncomputable def record_Decode_L : List Code := selI [8, 15] (loopsOf record_Decode_code)
noncomputable def record_Decode_J : List Code := selI [6] (joinsOf record_Decode_code)
noncomputable def record_Decode_S : List Code := scopesOf record_Decode_code
theorem record_Decode_l8_eq0 {ρ : Type} (k : Nat) (K : Ex → St UU → Option ρ) : ∀ (n : Nat) (v : (List S44) × (List Int) × (List Int) × Int × Int), iterK UX (fun s => s.at (record_Decode_cfg (ρ := ρ) k).live (record_Decode_cfg (ρ := ρ) k).boxes (some 8)) (exec UX (record_Decode_cfg k) (record_Decode_G k) (record_Decode_L.getD 0 .skip)) n ⟨[(4, .own (.l44 v.1)), (5, .own (.li_u64 v.2.1)), (6, .pv (.typ (.li_u8 v.2.2.1))), (38, .pv (.int .u64 v.2.2.2.1)), (39, .pv (.int .u64 v.2.2.2.2))], []⟩ (nrmK UX (record_Decode_cfg k) 8 K) = record_Decode_l8 k (K (.goto 0) ⟨[], []⟩) (fun l4 types5 rest6 => K (.exit 0) ⟨[(4, .own (.l44 l4)), (5, .own (.li_u64 types5)), (6, .pv (.typ (.li_u8 rest6)))], []⟩) n v.1 v.2.1 v.2.2.1 v.2.2.2.1 v.2.2.2.2 :=
  iter_rec (X := UX) (fun v => ⟨[(4, .own (.l44 v.1)), (5, .own (.li_u64 v.2.1)), (6, .pv (.typ (.li_u8 v.2.2.1))), (38, .pv (.int .u64 v.2.2.2.1)), (39, .pv (.int .u64 v.2.2.2.2))], []⟩) (fun rec v => record_Decode_l8_b k (K (.goto 0) ⟨[], []⟩) (fun l4 types5 rest6 => K (.exit 0) ⟨[(4, .own (.l44 l4)), (5, .own (.li_u64 types5)), (6, .pv (.typ (.li_u8 rest6)))], []⟩) (fun l4 types5 rest6 t38 t39 => rec (l4, types5, rest6, t38, t39)) v.1 v.2.1 v.2.2.1 v.2.2.2.1 v.2.2.2.2) (fun n v => record_Decode_l8 k (K (.goto 0) ⟨[], []⟩) (fun l4 types5 rest6 => K (.exit 0) ⟨[(4, .own (.l44 l4)), (5, .own (.li_u64 types5)), (6, .pv (.typ (.li_u8 rest6)))], []⟩) n v.1 v.2.1 v.2.2.1 v.2.2.2.1 v.2.2.2.2) (fun n v => by kernel_rfl) (fun _ => rfl) (fun _ _ => rfl)
theorem record_Decode_l8_ok0 {ρ : Type} (k : Nat) : IterOK UX (record_Decode_cfg (ρ := ρ) k) (record_Decode_G k) (record_Decode_L.getD 0 .skip) 8 (record_Decode_l8_s k) := by
  intro s K r h
  obtain ⟨env, hp⟩ := s
  unfold record_Decode_l8_s at h
  replace h := popS_inv h; obtain ⟨v1, e2, rfl, h⟩ := h
  replace h := asO_l44_inv h; obtain ⟨l4, rfl, h⟩ := h
  replace h := popS_inv h; obtain ⟨v3, e4, rfl, h⟩ := h
  replace h := asO_li_u64_inv h; obtain ⟨types5, rfl, h⟩ := h
  replace h := popS_inv h; obtain ⟨v5, e6, rfl, h⟩ := h
  replace h := as_li_u8_inv h; obtain ⟨rest6, rfl, h⟩ := h
  replace h := popS_inv h; obtain ⟨v7, e8, rfl, h⟩ := h
  replace h := asI_inv h; obtain ⟨t38, rfl, h⟩ := h
  replace h := popS_inv h; obtain ⟨v9, e10, rfl, h⟩ := h
  replace h := asI_inv h; obtain ⟨t39, rfl, h⟩ := h
  replace h := popN_inv h; obtain ⟨rfl, h⟩ := h
  replace h := popN_inv h; obtain ⟨rfl, h⟩ := h
  exact ⟨k, (record_Decode_l8_eq0 k K k (l4, types5, rest6, t38, t39)).trans h⟩
theorem record_Decode_l15_eq1 {ρ : Type} (k : Nat) (K : Ex → St UU → Option ρ) : ∀ (n : Nat) (v : (List S44) × (List Int) × (List Int) × Int × Int), iterK UX (fun s => s.at (record_Decode_cfg (ρ := ρ) k).live (record_Decode_cfg (ρ := ρ) k).boxes (some 15)) (exec UX (record_Decode_cfg k) (record_Decode_G k) (record_Decode_L.getD 1 .skip)) n ⟨[(4, .own (.l44 v.1)), (5, .own (.li_u64 v.2.1)), (6, .pv (.typ (.li_u8 v.2.2.1))), (57, .bor (.slot 5)), (58, .pv (.int .i64 v.2.2.2.1)), (59, .pv (.int .i64 v.2.2.2.2))], []⟩ (nrmK UX (record_Decode_cfg k) 15 K) = record_Decode_l15 k (K (.goto 0) ⟨[], []⟩) (fun l4 rest6 => K (.exit 2) ⟨[(4, .own (.l44 l4)), (6, .pv (.typ (.li_u8 rest6)))], []⟩) n v.1 v.2.1 v.2.2.1 v.2.2.2.1 v.2.2.2.2 :=
  iter_rec (X := UX) (fun v => ⟨[(4, .own (.l44 v.1)), (5, .own (.li_u64 v.2.1)), (6, .pv (.typ (.li_u8 v.2.2.1))), (57, .bor (.slot 5)), (58, .pv (.int .i64 v.2.2.2.1)), (59, .pv (.int .i64 v.2.2.2.2))], []⟩) (fun rec v => record_Decode_l15_b k (K (.goto 0) ⟨[], []⟩) (fun l4 rest6 => K (.exit 2) ⟨[(4, .own (.l44 l4)), (6, .pv (.typ (.li_u8 rest6)))], []⟩) (fun l4 types5 rest6 t58 t59 => rec (l4, types5, rest6, t58, t59)) v.1 v.2.1 v.2.2.1 v.2.2.2.1 v.2.2.2.2) (fun n v => record_Decode_l15 k (K (.goto 0) ⟨[], []⟩) (fun l4 rest6 => K (.exit 2) ⟨[(4, .own (.l44 l4)), (6, .pv (.typ (.li_u8 rest6)))], []⟩) n v.1 v.2.1 v.2.2.1 v.2.2.2.1 v.2.2.2.2) (fun n v => by kernel_rfl) (fun _ => rfl) (fun _ _ => rfl)
theorem record_Decode_l15_ok1 {ρ : Type} (k : Nat) : IterOK UX (record_Decode_cfg (ρ := ρ) k) (record_Decode_G k) (record_Decode_L.getD 1 .skip) 15 (record_Decode_l15_s k) := by
  intro s K r h
  obtain ⟨env, hp⟩ := s
  unfold record_Decode_l15_s at h
  replace h := popS_inv h; obtain ⟨v1, e2, rfl, h⟩ := h
  replace h := asO_l44_inv h; obtain ⟨l4, rfl, h⟩ := h
  replace h := popS_inv h; obtain ⟨v3, e4, rfl, h⟩ := h
  replace h := asO_li_u64_inv h; obtain ⟨types5, rfl, h⟩ := h
  replace h := popS_inv h; obtain ⟨v5, e6, rfl, h⟩ := h
  replace h := as_li_u8_inv h; obtain ⟨rest6, rfl, h⟩ := h
  replace h := popS_inv h; obtain ⟨v7, e8, rfl, h⟩ := h
  replace h := asL_inv h; obtain ⟨rfl, h⟩ := h
  replace h := popS_inv h; obtain ⟨v9, e10, rfl, h⟩ := h
  replace h := asI_inv h; obtain ⟨t58, rfl, h⟩ := h
  replace h := popS_inv h; obtain ⟨v11, e12, rfl, h⟩ := h
  replace h := asI_inv h; obtain ⟨t59, rfl, h⟩ := h
  replace h := popN_inv h; obtain ⟨rfl, h⟩ := h
  replace h := popN_inv h; obtain ⟨rfl, h⟩ := h
  exact ⟨k, (record_Decode_l15_eq1 k K k (l4, types5, rest6, t58, t59)).trans h⟩
theorem record_Decode_j6_eq0 {ρ : Type} (k : Nat) (K : Ex → St UU → Option ρ) (l4 : List S44) (types5 : List Int) (rest6 : List Int) (n7 : Int) (size8 : Int) : exec UX (record_Decode_cfg k) (record_Decode_G k) (record_Decode_J.getD 0 .skip) ⟨[(4, .own (.l44 l4)), (5, .own (.li_u64 types5)), (6, .pv (.typ (.li_u8 rest6))), (7, .pv (.int .u64 n7)), (8, .pv (.int .i64 size8))], []⟩ (nrmK UX (record_Decode_cfg k) 6 K) = record_Decode_j6 k (K (.goto 0) ⟨[], []⟩) (fun t2 t3 => K .ret ⟨[(2, .own (.l44 t2)), (3, .pv (.int .i64 t3))], []⟩) l4 types5 rest6 n7 size8 := by kernel_rfl
theorem record_Decode_j6_ok0 {ρ : Type} (k : Nat) : JoinOK UX (record_Decode_cfg (ρ := ρ) k) (record_Decode_G k) (record_Decode_J.getD 0 .skip) 6 (record_Decode_j6_s k) := by
  intro s K r h
  obtain ⟨env, hp⟩ := s
  unfold record_Decode_j6_s at h
  replace h := popS_inv h; obtain ⟨v1, e2, rfl, h⟩ := h
  replace h := asO_l44_inv h; obtain ⟨l4, rfl, h⟩ := h
  replace h := popS_inv h; obtain ⟨v3, e4, rfl, h⟩ := h
  replace h := asO_li_u64_inv h; obtain ⟨types5, rfl, h⟩ := h
  replace h := popS_inv h; obtain ⟨v5, e6, rfl, h⟩ := h
  replace h := as_li_u8_inv h; obtain ⟨rest6, rfl, h⟩ := h
  replace h := popS_inv h; obtain ⟨v7, e8, rfl, h⟩ := h
  replace h := asI_inv h; obtain ⟨n7, rfl, h⟩ := h
  replace h := popS_inv h; obtain ⟨v9, e10, rfl, h⟩ := h
  replace h := asI_inv h; obtain ⟨size8, rfl, h⟩ := h
  replace h := popN_inv h; obtain ⟨rfl, h⟩ := h
  replace h := popN_inv h; obtain ⟨rfl, h⟩ := h
  exact (record_Decode_j6_eq0 k K l4 types5 rest6 n7 size8).trans h
theorem record_Decode_cok {ρ : Type} (k : Nat) : COK (record_Decode_cfg (ρ := ρ) k) (record_Decode_G k) record_Decode_code :=
  cok_of (tl := [(8, record_Decode_l8_s k), (15, record_Decode_l15_s k)]) (tj := [(6, record_Decode_j6_s k)]) (tb := []) rfl rfl rfl (all_nth 2 (by kernel_rfl) ⟨iter_case (by kernel_rfl) rfl (record_Decode_l15_ok1 k), iter_case (by kernel_rfl) rfl (record_Decode_l8_ok0 k), trivial⟩) (all_nth 1 (by kernel_rfl) ⟨join_case (by kernel_rfl) rfl (record_Decode_j6_ok0 k), trivial⟩) (fun p hp => by cases hp)
noncomputable def record_Decode_enc (r : (List S44) × Int) : AV UU := .otup (some (.l44 r.1)) [.int .i64 r.2]
noncomputable def record_Decode_dec (v : AV UU) (_ : List (List (AV UU))) : Option ((List S44) × Int) :=
asOT_l44 v fun r0 q1 =>
popA q1 fun p2 q3 =>
asI .i64 (.pv p2) fun r1 =>
popN q3 <|
some (r0, r1)
theorem record_Decode_dec_enc (v : AV UU) (b : List (List (AV UU))) (r : (List S44) × Int) (h : record_Decode_dec v b = some r) : v = record_Decode_enc r := by
  unfold record_Decode_dec at h
  replace h := asOT_l44_inv h; obtain ⟨r0, q1, rfl, h⟩ := h
  replace h := popA_inv h; obtain ⟨p2, q3, rfl, h⟩ := h
  replace h := asI_inv h; obtain ⟨r1, e, h⟩ := h; cases e
  replace h := popN_inv h; obtain ⟨rfl, h⟩ := h
  cases h
  rfl
theorem record_Decode_eq (k : Nat) (b0 : List Int) : bodyK UX (record_Decode_cfg k) (record_Decode_G k) Try.f47 [.pv (.typ (.li_u8 b0))] [] record_Decode_dec = record_Decode k b0 := by kernel_rfl
theorem record_Decode_con (k : Nat) (b0 : List Int) (r : (List S44) × Int) (h : record_Decode k b0 = some r) : Con (X := UX) Try.prog 47 [.pv (.typ (.li_u8 b0))] [] (record_Decode_enc r) [] :=
  con_of_body xok tok Try.func47 record_Decode_body (record_Decode_gok k) rfl (record_Decode_cok k) (of_decide_eq_true (by kernel_rfl)) record_Decode_dec_enc ((record_Decode_eq k b0).trans h)
noncomputable def record_Decode_an {ρ : Type} (k : Nat) : An UX ρ := fun args bx K =>
popA args fun v1 a2 =>
as_li_u8 v1 fun b0 =>
popN a2 <|
popN bx <|
(record_Decode k b0).bind fun r => K (record_Decode_enc r) []
theorem record_Decode_ok {ρ : Type} (k : Nat) : AnsOK Try.prog 47 (record_Decode_an (ρ := ρ) k) := by
  intro args bx K r h
  unfold record_Decode_an at h
  replace h := popA_inv h; obtain ⟨v1, a2, rfl, h⟩ := h
  replace h := as_li_u8_inv h; obtain ⟨b0, rfl, h⟩ := h
  replace h := popN_inv h; obtain ⟨rfl, h⟩ := h
  replace h := popN_inv h; obtain ⟨rfl, h⟩ := h
  replace h := bind_inv h
  obtain ⟨x, hx, h⟩ := h
  exact ⟨there_of Try.func47 (by kernel_rfl) record_Decode_body, _, _, h, record_Decode_con k b0 x hx⟩

/-! cadastre/cadastrelaw0.Values -/
noncomputable def cadastrelaw0_Values_o0_code : Code := match Try.f48.body with | some c => c | none => .skip
theorem cadastrelaw0_Values_o0_body : Try.f48.body = some cadastrelaw0_Values_o0_code := by kernel_rfl
noncomputable def cadastrelaw0_Values_o0_G {ρ : Type} (k : Nat) : Ans UX ρ := gnil
theorem cadastrelaw0_Values_o0_gok {ρ : Type} (k : Nat) : GOK Try.prog (cadastrelaw0_Values_o0_G (ρ := ρ) k) := gok_nil
noncomputable def cadastrelaw0_Values_o0_l1_s {ρ : Type} (k : Nat) : Run UX ρ := fun s K =>
popS 0 s.env fun v1 e2 =>
asO_l44 v1 fun l0 =>
popS 2 e2 fun v3 e4 =>
asI .i64 v3 fun i2 =>
popN e4 <|
popN s.hp <|
cadastrelaw0_Values_o0_l1 k (fun l0 => K (.exit 0) ⟨[(0, .own (.l44 l0))], []⟩) k l0 i2
noncomputable def cadastrelaw0_Values_o0_cfg {ρ : Type} (k : Nat) : Cfg UX ρ where
  live i := (assoc [(0, [0]), (1, [0, 2]), (2, [0, 2]), (3, [0, 2]), (4, [0])] i).getD []
  boxes i := (assoc [(0, []), (1, []), (2, []), (3, []), (4, [])] i).getD []
  tk i := (assoc [] i).getD []
  n := 17
  labelR l := (assoc [] l).getD 0
  loops := assoc [(1, cadastrelaw0_Values_o0_l1_s k)]
  labels := assoc []
  joins := assoc []
  xl i e := match e with
    | .nxt => assoc [] i
    | .ret => assoc [] i
    | .exit j => (assoc [(1, [(0, ([0], []))])] i).bind fun l => assoc l j
    | .goto j => (assoc [] i).bind fun l => assoc l j
noncomputable def cadastrelaw0_Values_o0_L : List Code := selI [1] (loopsOf cadastrelaw0_Values_o0_code)
noncomputable def cadastrelaw0_Values_o0_J : List Code := selI [] (joinsOf cadastrelaw0_Values_o0_code)
noncomputable def cadastrelaw0_Values_o0_S : List Code := scopesOf cadastrelaw0_Values_o0_code
theorem cadastrelaw0_Values_o0_l1_eq0 {ρ : Type} (k : Nat) (K : Ex → St UU → Option ρ) : ∀ (n : Nat) (v : (List S44) × Int), iterK UX (fun s => s.at (cadastrelaw0_Values_o0_cfg (ρ := ρ) k).live (cadastrelaw0_Values_o0_cfg (ρ := ρ) k).boxes (some 1)) (exec UX (cadastrelaw0_Values_o0_cfg k) (cadastrelaw0_Values_o0_G k) (cadastrelaw0_Values_o0_L.getD 0 .skip)) n ⟨[(0, .own (.l44 v.1)), (2, .pv (.int .i64 v.2))], []⟩ (nrmK UX (cadastrelaw0_Values_o0_cfg k) 1 K) = cadastrelaw0_Values_o0_l1 k (fun l0 => K (.exit 0) ⟨[(0, .own (.l44 l0))], []⟩) n v.1 v.2 :=
  iter_rec (X := UX) (fun v => ⟨[(0, .own (.l44 v.1)), (2, .pv (.int .i64 v.2))], []⟩) (fun rec v => cadastrelaw0_Values_o0_l1_b k (fun l0 => K (.exit 0) ⟨[(0, .own (.l44 l0))], []⟩) (fun l0 i2 => rec (l0, i2)) v.1 v.2) (fun n v => cadastrelaw0_Values_o0_l1 k (fun l0 => K (.exit 0) ⟨[(0, .own (.l44 l0))], []⟩) n v.1 v.2) (fun n v => by kernel_rfl) (fun _ => rfl) (fun _ _ => rfl)
theorem cadastrelaw0_Values_o0_l1_ok0 {ρ : Type} (k : Nat) : IterOK UX (cadastrelaw0_Values_o0_cfg (ρ := ρ) k) (cadastrelaw0_Values_o0_G k) (cadastrelaw0_Values_o0_L.getD 0 .skip) 1 (cadastrelaw0_Values_o0_l1_s k) := by
  intro s K r h
  obtain ⟨env, hp⟩ := s
  unfold cadastrelaw0_Values_o0_l1_s at h
  replace h := popS_inv h; obtain ⟨v1, e2, rfl, h⟩ := h
  replace h := asO_l44_inv h; obtain ⟨l0, rfl, h⟩ := h
  replace h := popS_inv h; obtain ⟨v3, e4, rfl, h⟩ := h
  replace h := asI_inv h; obtain ⟨i2, rfl, h⟩ := h
  replace h := popN_inv h; obtain ⟨rfl, h⟩ := h
  replace h := popN_inv h; obtain ⟨rfl, h⟩ := h
  exact ⟨k, (cadastrelaw0_Values_o0_l1_eq0 k K k (l0, i2)).trans h⟩
theorem cadastrelaw0_Values_o0_cok {ρ : Type} (k : Nat) : COK (cadastrelaw0_Values_o0_cfg (ρ := ρ) k) (cadastrelaw0_Values_o0_G k) cadastrelaw0_Values_o0_code :=
  cok_of (tl := [(1, cadastrelaw0_Values_o0_l1_s k)]) (tj := []) (tb := []) rfl rfl rfl (all_nth 1 (by kernel_rfl) ⟨iter_case (by kernel_rfl) rfl (cadastrelaw0_Values_o0_l1_ok0 k), trivial⟩) (nil_all (by kernel_rfl)) (fun p hp => by cases hp)
noncomputable def cadastrelaw0_Values_o0_enc (r : Unit) : AV UU := .pv (.tup [])
noncomputable def cadastrelaw0_Values_o0_dec (v : AV UU) (_ : List (List (AV UU))) : Option Unit :=
asT v fun q1 =>
popN q1 <|
some ()
theorem cadastrelaw0_Values_o0_dec_enc (v : AV UU) (b : List (List (AV UU))) (r : Unit) (h : cadastrelaw0_Values_o0_dec v b = some r) : v = cadastrelaw0_Values_o0_enc r := by
  unfold cadastrelaw0_Values_o0_dec at h
  replace h := asT_inv h; obtain ⟨q1, rfl, h⟩ := h
  replace h := popN_inv h; obtain ⟨rfl, h⟩ := h
  cases h
  rfl
theorem cadastrelaw0_Values_o0_eq (k : Nat) (l0 : List S44) : bodyK UX (cadastrelaw0_Values_o0_cfg k) (cadastrelaw0_Values_o0_G k) Try.f48 [.own (.l44 l0)] [] cadastrelaw0_Values_o0_dec = cadastrelaw0_Values_o0 k l0 := by kernel_rfl
theorem cadastrelaw0_Values_o0_con (k : Nat) (l0 : List S44) (r : Unit) (h : cadastrelaw0_Values_o0 k l0 = some r) : Con (X := UX) Try.prog 48 [.own (.l44 l0)] [] (cadastrelaw0_Values_o0_enc r) [] :=
  con_of_body xok tok Try.func48 cadastrelaw0_Values_o0_body (cadastrelaw0_Values_o0_gok k) rfl (cadastrelaw0_Values_o0_cok k) (of_decide_eq_true (by kernel_rfl)) cadastrelaw0_Values_o0_dec_enc ((cadastrelaw0_Values_o0_eq k l0).trans h)
noncomputable def cadastrelaw0_Values_o0_an {ρ : Type} (k : Nat) : An UX ρ := fun args bx K =>
popA args fun v1 a2 =>
asO_l44 v1 fun l0 =>
popN a2 <|
popN bx <|
(cadastrelaw0_Values_o0 k l0).bind fun r => K (cadastrelaw0_Values_o0_enc r) []
theorem cadastrelaw0_Values_o0_ok {ρ : Type} (k : Nat) : AnsOK Try.prog 48 (cadastrelaw0_Values_o0_an (ρ := ρ) k) := by
  intro args bx K r h
  unfold cadastrelaw0_Values_o0_an at h
  replace h := popA_inv h; obtain ⟨v1, a2, rfl, h⟩ := h
  replace h := asO_l44_inv h; obtain ⟨l0, rfl, h⟩ := h
  replace h := popN_inv h; obtain ⟨rfl, h⟩ := h
  replace h := popN_inv h; obtain ⟨rfl, h⟩ := h
  replace h := bind_inv h
  obtain ⟨x, hx, h⟩ := h
  exact ⟨there_of Try.func48 (by kernel_rfl) cadastrelaw0_Values_o0_body, _, _, h, cadastrelaw0_Values_o0_con k l0 x hx⟩

/-! cadastre/cadastrelaw6.wakes -/
noncomputable def cadastrelaw6_wakes_code : Code := match Try.f25.body with | some c => c | none => .skip
theorem cadastrelaw6_wakes_body : Try.f25.body = some cadastrelaw6_wakes_code := by kernel_rfl
noncomputable def cadastrelaw6_wakes_G {ρ : Type} (k : Nat) : Ans UX ρ := gk 21 (record_Encode_an k) (gk 23 (cadastrelaw6_num_an k) (gk 24 (cadastreref0_EqBytes_an k) (gnil)))
theorem cadastrelaw6_wakes_gok {ρ : Type} (k : Nat) : GOK Try.prog (cadastrelaw6_wakes_G (ρ := ρ) k) := gok_cons (record_Encode_ok k) (gok_cons (cadastrelaw6_num_ok k) (gok_cons (cadastreref0_EqBytes_ok k) (gok_nil)))
noncomputable def cadastrelaw6_wakes_cfg {ρ : Type} (k : Nat) : Cfg UX ρ where
  live i := (assoc [(0, []), (1, []), (2, [1, 2])] i).getD []
  boxes i := (assoc [(0, []), (1, []), (2, [])] i).getD []
  tk i := (assoc [] i).getD []
  n := 19
  labelR l := (assoc [] l).getD 0
  loops := assoc []
  labels := assoc []
  joins := assoc []
  xl i e := match e with
    | .nxt => assoc [] i
    | .ret => assoc [] i
    | .exit j => (assoc [] i).bind fun l => assoc l j
    | .goto j => (assoc [] i).bind fun l => assoc l j
noncomputable def cadastrelaw6_wakes_L : List Code := selI [] (loopsOf cadastrelaw6_wakes_code)
noncomputable def cadastrelaw6_wakes_J : List Code := selI [] (joinsOf cadastrelaw6_wakes_code)
noncomputable def cadastrelaw6_wakes_S : List Code := scopesOf cadastrelaw6_wakes_code
theorem cadastrelaw6_wakes_cok {ρ : Type} (k : Nat) : COK (cadastrelaw6_wakes_cfg (ρ := ρ) k) (cadastrelaw6_wakes_G k) cadastrelaw6_wakes_code :=
  cok_of (tl := []) (tj := []) (tb := []) rfl rfl rfl (nil_all (by kernel_rfl)) (nil_all (by kernel_rfl)) (fun p hp => by cases hp)
noncomputable def cadastrelaw6_wakes_enc (r : Bool) : AV UU := .pv (.bool r)
noncomputable def cadastrelaw6_wakes_dec (v : AV UU) (_ : List (List (AV UU))) : Option Bool :=
asB v fun r0 =>
some r0
theorem cadastrelaw6_wakes_dec_enc (v : AV UU) (b : List (List (AV UU))) (r : Bool) (h : cadastrelaw6_wakes_dec v b = some r) : v = cadastrelaw6_wakes_enc r := by
  unfold cadastrelaw6_wakes_dec at h
  replace h := asB_inv h; obtain ⟨r0, rfl, h⟩ := h
  cases h
  rfl
theorem cadastrelaw6_wakes_eq (k : Nat) : bodyK UX (cadastrelaw6_wakes_cfg k) (cadastrelaw6_wakes_G k) Try.f25 [] [] cadastrelaw6_wakes_dec = cadastrelaw6_wakes k := by kernel_rfl
theorem cadastrelaw6_wakes_con (k : Nat) (r : Bool) (h : cadastrelaw6_wakes k = some r) : Con (X := UX) Try.prog 25 [] [] (cadastrelaw6_wakes_enc r) [] :=
  con_of_body xok tok Try.func25 cadastrelaw6_wakes_body (cadastrelaw6_wakes_gok k) rfl (cadastrelaw6_wakes_cok k) (of_decide_eq_true (by kernel_rfl)) cadastrelaw6_wakes_dec_enc ((cadastrelaw6_wakes_eq k).trans h)
noncomputable def cadastrelaw6_wakes_an {ρ : Type} (k : Nat) : An UX ρ := fun args bx K =>
popN args <|
popN bx <|
(cadastrelaw6_wakes k).bind fun r => K (cadastrelaw6_wakes_enc r) []
theorem cadastrelaw6_wakes_ok {ρ : Type} (k : Nat) : AnsOK Try.prog 25 (cadastrelaw6_wakes_an (ρ := ρ) k) := by
  intro args bx K r h
  unfold cadastrelaw6_wakes_an at h
  replace h := popN_inv h; obtain ⟨rfl, h⟩ := h
  replace h := popN_inv h; obtain ⟨rfl, h⟩ := h
  replace h := bind_inv h
  obtain ⟨x, hx, h⟩ := h
  exact ⟨there_of Try.func25 (by kernel_rfl) cadastrelaw6_wakes_body, _, _, h, cadastrelaw6_wakes_con k x hx⟩

/-! cadastre/cadastrelaw6.RecordExact -/
noncomputable def cadastrelaw6_RecordExact_code : Code := match Try.f13.body with | some c => c | none => .skip
theorem cadastrelaw6_RecordExact_body : Try.f13.body = some cadastrelaw6_RecordExact_code := by kernel_rfl
noncomputable def cadastrelaw6_RecordExact_G {ρ : Type} (k : Nat) : Ans UX ρ := gk 20 (cadastrelaw6_heavy_an k) (gk 22 (cadastreref6_Encode_an k) (gk 44 (cadastreref0_CopyValues_an k) (gk 21 (record_Encode_an k) (gk 23 (cadastrelaw6_num_an k) (gk 24 (cadastreref0_EqBytes_an k) (gk 45 (cadastreref0_EqValues_an k) (gk 46 (cadastreref6_Decode_an k) (gk 33 (cadastreref0_CopyBytes_an k) (gk 47 (record_Decode_an k) (gk 48 (cadastrelaw0_Values_o0_an k) (gk 25 (cadastrelaw6_wakes_an k) (gnil))))))))))))
theorem cadastrelaw6_RecordExact_gok {ρ : Type} (k : Nat) : GOK Try.prog (cadastrelaw6_RecordExact_G (ρ := ρ) k) := gok_cons (cadastrelaw6_heavy_ok k) (gok_cons (cadastreref6_Encode_ok k) (gok_cons (cadastreref0_CopyValues_ok k) (gok_cons (record_Encode_ok k) (gok_cons (cadastrelaw6_num_ok k) (gok_cons (cadastreref0_EqBytes_ok k) (gok_cons (cadastreref0_EqValues_ok k) (gok_cons (cadastreref6_Decode_ok k) (gok_cons (cadastreref0_CopyBytes_ok k) (gok_cons (record_Decode_ok k) (gok_cons (cadastrelaw0_Values_o0_ok k) (gok_cons (cadastrelaw6_wakes_ok k) (gok_nil))))))))))))
noncomputable def cadastrelaw6_RecordExact_j17_s {ρ : Type} (k : Nat) : Run UX ρ := fun s K =>
popS 0 s.env fun v1 e2 =>
as_l34 v1 fun l0 =>
popS 3 e2 fun v3 e4 =>
asI .i64 v3 fun i3 =>
popS 4 e4 fun v5 e6 =>
asP 4 0 v5 <|
popS 12 e6 fun v7 e8 =>
as_li_u8 v7 fun in12 =>
popS 13 e8 fun v9 e10 =>
asO_l44 v9 fun x13 =>
popN e10 <|
popB 4 s.hp fun c11 e12 =>
popA c11 fun v13 c14 =>
as_l44 v13 fun z15 =>
popA c14 fun v16 c17 =>
as_li_u8 v16 fun z18 =>
popN c17 <|
popN e12 <|
cadastrelaw6_RecordExact_j17 k (fun t2 => K .ret ⟨[(2, .pv (.bool t2))], []⟩) (fun l0 i3 => K .nxt ⟨[(0, .pv (.typ (.l34 l0))), (3, .pv (.int .i64 i3))], []⟩) l0 i3 in12 x13 (⟨z15, z18⟩ : S34)
noncomputable def cadastrelaw6_RecordExact_j12_s {ρ : Type} (k : Nat) : Run UX ρ := fun s K =>
popS 0 s.env fun v1 e2 =>
as_l34 v1 fun l0 =>
popS 3 e2 fun v3 e4 =>
asI .i64 v3 fun i3 =>
popS 4 e4 fun v5 e6 =>
asP 4 0 v5 <|
popN e6 <|
popB 4 s.hp fun c7 e8 =>
popA c7 fun v9 c10 =>
as_l44 v9 fun z11 =>
popA c10 fun v12 c13 =>
as_li_u8 v12 fun z14 =>
popN c13 <|
popN e8 <|
cadastrelaw6_RecordExact_j12 k (fun t2 => K .ret ⟨[(2, .pv (.bool t2))], []⟩) (fun l0 i3 => K .nxt ⟨[(0, .pv (.typ (.l34 l0))), (3, .pv (.int .i64 i3))], []⟩) l0 i3 (⟨z11, z14⟩ : S34)
noncomputable def cadastrelaw6_RecordExact_j4_s {ρ : Type} (k : Nat) : Run UX ρ := fun s K =>
popS 0 s.env fun v1 e2 =>
as_l34 v1 fun l0 =>
popS 3 e2 fun v3 e4 =>
asI .i64 v3 fun i3 =>
popN e4 <|
popN s.hp <|
cadastrelaw6_RecordExact_j4 k (fun t2 => K .ret ⟨[(2, .pv (.bool t2))], []⟩) (fun l0 i3 => K .nxt ⟨[(0, .pv (.typ (.l34 l0))), (3, .pv (.int .i64 i3))], []⟩) l0 i3
noncomputable def cadastrelaw6_RecordExact_l2_s {ρ : Type} (k : Nat) : Run UX ρ := fun s K =>
popS 0 s.env fun v1 e2 =>
as_l34 v1 fun l0 =>
popS 3 e2 fun v3 e4 =>
asI .i64 v3 fun i3 =>
popN e4 <|
popN s.hp <|
cadastrelaw6_RecordExact_l2 k (fun t2 => K .ret ⟨[(2, .pv (.bool t2))], []⟩) (K (.exit 0) ⟨[], []⟩) k l0 i3
noncomputable def cadastrelaw6_RecordExact_cfg {ρ : Type} (k : Nat) : Cfg UX ρ where
  live i := (assoc [(0, [0]), (1, [0]), (2, [0, 3]), (3, [0, 3]), (4, [0, 3]), (5, [0, 3, 4]), (6, []), (7, [0, 3, 4]), (8, [0, 3, 4, 5, 6]), (9, [0, 3, 4, 5, 6, 7]), (10, [0, 3, 4, 5, 6, 7, 8, 9]), (11, []), (12, [0, 3, 4]), (13, [0, 3, 4, 10, 11]), (14, [0, 3, 4, 10, 11, 12]), (15, [0, 3, 4, 10, 11, 12, 13, 14]), (16, []), (17, [0, 3, 4, 12, 13]), (18, [0, 3, 4, 12]), (19, []), (20, [])] i).getD []
  boxes i := (assoc [(0, []), (1, []), (2, []), (3, []), (4, []), (5, [4]), (6, []), (7, [4]), (8, [4]), (9, [4]), (10, [4]), (11, []), (12, [4]), (13, [4]), (14, [4]), (15, [4]), (16, []), (17, [4]), (18, [4]), (19, []), (20, [])] i).getD []
  tk i := (assoc [(48, [0])] i).getD []
  n := 104
  labelR l := (assoc [] l).getD 0
  loops := assoc [(2, cadastrelaw6_RecordExact_l2_s k)]
  labels := assoc []
  joins := assoc [(17, cadastrelaw6_RecordExact_j17_s k), (12, cadastrelaw6_RecordExact_j12_s k), (4, cadastrelaw6_RecordExact_j4_s k)]
  xl i e := match e with
    | .nxt => assoc [(17, ([0, 3], [])), (12, ([0, 3], [])), (4, ([0, 3], []))] i
    | .ret => assoc [(17, ([2], [])), (12, ([2], [])), (4, ([2], [])), (2, ([2], []))] i
    | .exit j => (assoc [(2, [(0, ([], []))])] i).bind fun l => assoc l j
    | .goto j => (assoc [] i).bind fun l => assoc l j
noncomputable def cadastrelaw6_RecordExact_L : List Code := selI [2] (loopsOf cadastrelaw6_RecordExact_code)
noncomputable def cadastrelaw6_RecordExact_J : List Code := selI [17, 12, 4] (joinsOf cadastrelaw6_RecordExact_code)
noncomputable def cadastrelaw6_RecordExact_S : List Code := scopesOf cadastrelaw6_RecordExact_code
theorem cadastrelaw6_RecordExact_l2_eq0 {ρ : Type} (k : Nat) (K : Ex → St UU → Option ρ) : ∀ (n : Nat) (v : (List S34) × Int), iterK UX (fun s => s.at (cadastrelaw6_RecordExact_cfg (ρ := ρ) k).live (cadastrelaw6_RecordExact_cfg (ρ := ρ) k).boxes (some 2)) (exec UX (cadastrelaw6_RecordExact_cfg k) (cadastrelaw6_RecordExact_G k) (cadastrelaw6_RecordExact_L.getD 0 .skip)) n ⟨[(0, .pv (.typ (.l34 v.1))), (3, .pv (.int .i64 v.2))], []⟩ (nrmK UX (cadastrelaw6_RecordExact_cfg k) 2 K) = cadastrelaw6_RecordExact_l2 k (fun t2 => K .ret ⟨[(2, .pv (.bool t2))], []⟩) (K (.exit 0) ⟨[], []⟩) n v.1 v.2 :=
  iter_rec (X := UX) (fun v => ⟨[(0, .pv (.typ (.l34 v.1))), (3, .pv (.int .i64 v.2))], []⟩) (fun rec v => cadastrelaw6_RecordExact_l2_b k (fun t2 => K .ret ⟨[(2, .pv (.bool t2))], []⟩) (K (.exit 0) ⟨[], []⟩) (fun l0 i3 => rec (l0, i3)) v.1 v.2) (fun n v => cadastrelaw6_RecordExact_l2 k (fun t2 => K .ret ⟨[(2, .pv (.bool t2))], []⟩) (K (.exit 0) ⟨[], []⟩) n v.1 v.2) (fun n v => by kernel_rfl) (fun _ => rfl) (fun _ _ => rfl)
theorem cadastrelaw6_RecordExact_l2_ok0 {ρ : Type} (k : Nat) : IterOK UX (cadastrelaw6_RecordExact_cfg (ρ := ρ) k) (cadastrelaw6_RecordExact_G k) (cadastrelaw6_RecordExact_L.getD 0 .skip) 2 (cadastrelaw6_RecordExact_l2_s k) := by
  intro s K r h
  obtain ⟨env, hp⟩ := s
  unfold cadastrelaw6_RecordExact_l2_s at h
  replace h := popS_inv h; obtain ⟨v1, e2, rfl, h⟩ := h
  replace h := as_l34_inv h; obtain ⟨l0, rfl, h⟩ := h
  replace h := popS_inv h; obtain ⟨v3, e4, rfl, h⟩ := h
  replace h := asI_inv h; obtain ⟨i3, rfl, h⟩ := h
  replace h := popN_inv h; obtain ⟨rfl, h⟩ := h
  replace h := popN_inv h; obtain ⟨rfl, h⟩ := h
  exact ⟨k, (cadastrelaw6_RecordExact_l2_eq0 k K k (l0, i3)).trans h⟩
theorem cadastrelaw6_RecordExact_j4_eq0 {ρ : Type} (k : Nat) (K : Ex → St UU → Option ρ) (l0 : List S34) (i3 : Int) : exec UX (cadastrelaw6_RecordExact_cfg k) (cadastrelaw6_RecordExact_G k) (cadastrelaw6_RecordExact_J.getD 0 .skip) ⟨[(0, .pv (.typ (.l34 l0))), (3, .pv (.int .i64 i3))], []⟩ (nrmK UX (cadastrelaw6_RecordExact_cfg k) 4 K) = cadastrelaw6_RecordExact_j4 k (fun t2 => K .ret ⟨[(2, .pv (.bool t2))], []⟩) (fun l0 i3 => K .nxt ⟨[(0, .pv (.typ (.l34 l0))), (3, .pv (.int .i64 i3))], []⟩) l0 i3 := by kernel_rfl
theorem cadastrelaw6_RecordExact_j4_ok0 {ρ : Type} (k : Nat) : JoinOK UX (cadastrelaw6_RecordExact_cfg (ρ := ρ) k) (cadastrelaw6_RecordExact_G k) (cadastrelaw6_RecordExact_J.getD 0 .skip) 4 (cadastrelaw6_RecordExact_j4_s k) := by
  intro s K r h
  obtain ⟨env, hp⟩ := s
  unfold cadastrelaw6_RecordExact_j4_s at h
  replace h := popS_inv h; obtain ⟨v1, e2, rfl, h⟩ := h
  replace h := as_l34_inv h; obtain ⟨l0, rfl, h⟩ := h
  replace h := popS_inv h; obtain ⟨v3, e4, rfl, h⟩ := h
  replace h := asI_inv h; obtain ⟨i3, rfl, h⟩ := h
  replace h := popN_inv h; obtain ⟨rfl, h⟩ := h
  replace h := popN_inv h; obtain ⟨rfl, h⟩ := h
  exact (cadastrelaw6_RecordExact_j4_eq0 k K l0 i3).trans h
theorem cadastrelaw6_RecordExact_j12_eq1 {ρ : Type} (k : Nat) (K : Ex → St UU → Option ρ) (l0 : List S34) (i3 : Int) (p4 : S34) : exec UX (cadastrelaw6_RecordExact_cfg k) (cadastrelaw6_RecordExact_G k) (cadastrelaw6_RecordExact_J.getD 1 .skip) ⟨[(0, .pv (.typ (.l34 l0))), (3, .pv (.int .i64 i3)), (4, .ptr 4 0)], [(4, [.pv (.typ (.l44 p4.f0)), .pv (.typ (.li_u8 p4.f1))])]⟩ (nrmK UX (cadastrelaw6_RecordExact_cfg k) 12 K) = cadastrelaw6_RecordExact_j12 k (fun t2 => K .ret ⟨[(2, .pv (.bool t2))], []⟩) (fun l0 i3 => K .nxt ⟨[(0, .pv (.typ (.l34 l0))), (3, .pv (.int .i64 i3))], []⟩) l0 i3 p4 := by kernel_rfl
theorem cadastrelaw6_RecordExact_j12_ok1 {ρ : Type} (k : Nat) : JoinOK UX (cadastrelaw6_RecordExact_cfg (ρ := ρ) k) (cadastrelaw6_RecordExact_G k) (cadastrelaw6_RecordExact_J.getD 1 .skip) 12 (cadastrelaw6_RecordExact_j12_s k) := by
  intro s K r h
  obtain ⟨env, hp⟩ := s
  unfold cadastrelaw6_RecordExact_j12_s at h
  replace h := popS_inv h; obtain ⟨v1, e2, rfl, h⟩ := h
  replace h := as_l34_inv h; obtain ⟨l0, rfl, h⟩ := h
  replace h := popS_inv h; obtain ⟨v3, e4, rfl, h⟩ := h
  replace h := asI_inv h; obtain ⟨i3, rfl, h⟩ := h
  replace h := popS_inv h; obtain ⟨v5, e6, rfl, h⟩ := h
  replace h := asP_inv h; obtain ⟨rfl, h⟩ := h
  replace h := popN_inv h; obtain ⟨rfl, h⟩ := h
  replace h := popB_inv h; obtain ⟨c7, e8, rfl, h⟩ := h
  replace h := popA_inv h; obtain ⟨v9, c10, rfl, h⟩ := h
  replace h := as_l44_inv h; obtain ⟨z11, rfl, h⟩ := h
  replace h := popA_inv h; obtain ⟨v12, c13, rfl, h⟩ := h
  replace h := as_li_u8_inv h; obtain ⟨z14, rfl, h⟩ := h
  replace h := popN_inv h; obtain ⟨rfl, h⟩ := h
  replace h := popN_inv h; obtain ⟨rfl, h⟩ := h
  exact (cadastrelaw6_RecordExact_j12_eq1 k K l0 i3 (⟨z11, z14⟩ : S34)).trans h
theorem cadastrelaw6_RecordExact_j17_eq2 {ρ : Type} (k : Nat) (K : Ex → St UU → Option ρ) (l0 : List S34) (i3 : Int) (in12 : List Int) (x13 : List S44) (p4 : S34) : exec UX (cadastrelaw6_RecordExact_cfg k) (cadastrelaw6_RecordExact_G k) (cadastrelaw6_RecordExact_J.getD 2 .skip) ⟨[(0, .pv (.typ (.l34 l0))), (3, .pv (.int .i64 i3)), (4, .ptr 4 0), (12, .pv (.typ (.li_u8 in12))), (13, .own (.l44 x13))], [(4, [.pv (.typ (.l44 p4.f0)), .pv (.typ (.li_u8 p4.f1))])]⟩ (nrmK UX (cadastrelaw6_RecordExact_cfg k) 17 K) = cadastrelaw6_RecordExact_j17 k (fun t2 => K .ret ⟨[(2, .pv (.bool t2))], []⟩) (fun l0 i3 => K .nxt ⟨[(0, .pv (.typ (.l34 l0))), (3, .pv (.int .i64 i3))], []⟩) l0 i3 in12 x13 p4 := by kernel_rfl
theorem cadastrelaw6_RecordExact_j17_ok2 {ρ : Type} (k : Nat) : JoinOK UX (cadastrelaw6_RecordExact_cfg (ρ := ρ) k) (cadastrelaw6_RecordExact_G k) (cadastrelaw6_RecordExact_J.getD 2 .skip) 17 (cadastrelaw6_RecordExact_j17_s k) := by
  intro s K r h
  obtain ⟨env, hp⟩ := s
  unfold cadastrelaw6_RecordExact_j17_s at h
  replace h := popS_inv h; obtain ⟨v1, e2, rfl, h⟩ := h
  replace h := as_l34_inv h; obtain ⟨l0, rfl, h⟩ := h
  replace h := popS_inv h; obtain ⟨v3, e4, rfl, h⟩ := h
  replace h := asI_inv h; obtain ⟨i3, rfl, h⟩ := h
  replace h := popS_inv h; obtain ⟨v5, e6, rfl, h⟩ := h
  replace h := asP_inv h; obtain ⟨rfl, h⟩ := h
  replace h := popS_inv h; obtain ⟨v7, e8, rfl, h⟩ := h
  replace h := as_li_u8_inv h; obtain ⟨in12, rfl, h⟩ := h
  replace h := popS_inv h; obtain ⟨v9, e10, rfl, h⟩ := h
  replace h := asO_l44_inv h; obtain ⟨x13, rfl, h⟩ := h
  replace h := popN_inv h; obtain ⟨rfl, h⟩ := h
  replace h := popB_inv h; obtain ⟨c11, e12, rfl, h⟩ := h
  replace h := popA_inv h; obtain ⟨v13, c14, rfl, h⟩ := h
  replace h := as_l44_inv h; obtain ⟨z15, rfl, h⟩ := h
  replace h := popA_inv h; obtain ⟨v16, c17, rfl, h⟩ := h
  replace h := as_li_u8_inv h; obtain ⟨z18, rfl, h⟩ := h
  replace h := popN_inv h; obtain ⟨rfl, h⟩ := h
  replace h := popN_inv h; obtain ⟨rfl, h⟩ := h
  exact (cadastrelaw6_RecordExact_j17_eq2 k K l0 i3 in12 x13 (⟨z15, z18⟩ : S34)).trans h
theorem cadastrelaw6_RecordExact_cok {ρ : Type} (k : Nat) : COK (cadastrelaw6_RecordExact_cfg (ρ := ρ) k) (cadastrelaw6_RecordExact_G k) cadastrelaw6_RecordExact_code :=
  cok_of (tl := [(2, cadastrelaw6_RecordExact_l2_s k)]) (tj := [(17, cadastrelaw6_RecordExact_j17_s k), (12, cadastrelaw6_RecordExact_j12_s k), (4, cadastrelaw6_RecordExact_j4_s k)]) (tb := []) rfl rfl rfl (all_nth 1 (by kernel_rfl) ⟨iter_case (by kernel_rfl) rfl (cadastrelaw6_RecordExact_l2_ok0 k), trivial⟩) (all_nth 3 (by kernel_rfl) ⟨join_case (by kernel_rfl) rfl (cadastrelaw6_RecordExact_j17_ok2 k), join_case (by kernel_rfl) rfl (cadastrelaw6_RecordExact_j12_ok1 k), join_case (by kernel_rfl) rfl (cadastrelaw6_RecordExact_j4_ok0 k), trivial⟩) (fun p hp => by cases hp)
noncomputable def cadastrelaw6_RecordExact_enc (r : Bool) : AV UU := .pv (.bool r)
noncomputable def cadastrelaw6_RecordExact_dec (v : AV UU) (_ : List (List (AV UU))) : Option Bool :=
asB v fun r0 =>
some r0
theorem cadastrelaw6_RecordExact_dec_enc (v : AV UU) (b : List (List (AV UU))) (r : Bool) (h : cadastrelaw6_RecordExact_dec v b = some r) : v = cadastrelaw6_RecordExact_enc r := by
  unfold cadastrelaw6_RecordExact_dec at h
  replace h := asB_inv h; obtain ⟨r0, rfl, h⟩ := h
  cases h
  rfl
theorem cadastrelaw6_RecordExact_eq (k : Nat) (l0 : List S34) : bodyK UX (cadastrelaw6_RecordExact_cfg k) (cadastrelaw6_RecordExact_G k) Try.f13 [.pv (.typ (.l34 l0))] [] cadastrelaw6_RecordExact_dec = cadastrelaw6_RecordExact k l0 := by kernel_rfl
theorem cadastrelaw6_RecordExact_con (k : Nat) (l0 : List S34) (r : Bool) (h : cadastrelaw6_RecordExact k l0 = some r) : Con (X := UX) Try.prog 13 [.pv (.typ (.l34 l0))] [] (cadastrelaw6_RecordExact_enc r) [] :=
  con_of_body xok tok Try.func13 cadastrelaw6_RecordExact_body (cadastrelaw6_RecordExact_gok k) rfl (cadastrelaw6_RecordExact_cok k) (of_decide_eq_true (by kernel_rfl)) cadastrelaw6_RecordExact_dec_enc ((cadastrelaw6_RecordExact_eq k l0).trans h)
noncomputable def cadastrelaw6_RecordExact_an {ρ : Type} (k : Nat) : An UX ρ := fun args bx K =>
popA args fun v1 a2 =>
as_l34 v1 fun l0 =>
popN a2 <|
popN bx <|
(cadastrelaw6_RecordExact k l0).bind fun r => K (cadastrelaw6_RecordExact_enc r) []
theorem cadastrelaw6_RecordExact_ok {ρ : Type} (k : Nat) : AnsOK Try.prog 13 (cadastrelaw6_RecordExact_an (ρ := ρ) k) := by
  intro args bx K r h
  unfold cadastrelaw6_RecordExact_an at h
  replace h := popA_inv h; obtain ⟨v1, a2, rfl, h⟩ := h
  replace h := as_l34_inv h; obtain ⟨l0, rfl, h⟩ := h
  replace h := popN_inv h; obtain ⟨rfl, h⟩ := h
  replace h := popN_inv h; obtain ⟨rfl, h⟩ := h
  replace h := bind_inv h
  obtain ⟨x, hx, h⟩ := h
  exact ⟨there_of Try.func13 (by kernel_rfl) cadastrelaw6_RecordExact_body, _, _, h, cadastrelaw6_RecordExact_con k l0 x hx⟩
end Go.Proofs.Ytekjibpkkgldgaa.R
