/-
  What the program's functions answer: the printed functions' answers.
-/
import Derived.Test.YtekjibpkkgldgaaRG2
namespace Go.Proofs.Ytekjibpkkgldgaa.R
open Go Go.AX
/-! cadastre/value.Int -/
noncomputable def value_Int_code : Code := match Try.f101.body with | some c => c | none => .skip
theorem value_Int_body : Try.f101.body = some value_Int_code := by kernel_rfl
noncomputable def value_Int_G {ρ : Type} (k : Nat) : Ans UX ρ := gnil
theorem value_Int_gok {ρ : Type} (k : Nat) : GOK Try.prog (value_Int_G (ρ := ρ) k) := gok_nil
noncomputable def value_Int_cfg {ρ : Type} (k : Nat) : Cfg UX ρ where
  live i := (assoc [(0, [0]), (1, [0, 2])] i).getD []
  boxes i := (assoc [(0, []), (1, [2])] i).getD []
  tk i := (assoc [] i).getD []
  n := 5
  labelR l := (assoc [] l).getD 0
  loops := assoc []
  labels := assoc []
  joins := assoc []
  xl i e := match e with
    | .nxt => assoc [] i
    | .ret => assoc [] i
    | .exit j => (assoc [] i).bind fun l => assoc l j
    | .goto j => (assoc [] i).bind fun l => assoc l j
noncomputable def value_Int_L : List Code := selI [] (loopsOf value_Int_code)
noncomputable def value_Int_J : List Code := selI [] (joinsOf value_Int_code)
noncomputable def value_Int_S : List Code := scopesOf value_Int_code
theorem value_Int_cok {ρ : Type} (k : Nat) : COK (value_Int_cfg (ρ := ρ) k) (value_Int_G k) value_Int_code :=
  cok_of (tl := []) (tj := []) (tb := []) rfl rfl rfl (nil_all (by kernel_rfl)) (nil_all (by kernel_rfl)) (fun p hp => by cases hp)
noncomputable def value_Int_enc (r : S44) : AV UU := .pv (.typ (.s44 r))
noncomputable def value_Int_dec (v : AV UU) (_ : List (List (AV UU))) : Option S44 :=
as_s44 v fun r0 =>
some r0
theorem value_Int_dec_enc (v : AV UU) (b : List (List (AV UU))) (r : S44) (h : value_Int_dec v b = some r) : v = value_Int_enc r := by
  unfold value_Int_dec at h
  replace h := as_s44_inv h; obtain ⟨r0, rfl, h⟩ := h
  cases h
  rfl
theorem value_Int_eq (k : Nat) (n0 : Int) : bodyK UX (value_Int_cfg k) (value_Int_G k) Try.f101 [.pv (.int .i64 n0)] [] value_Int_dec = value_Int k n0 := by kernel_rfl
theorem value_Int_con (k : Nat) (n0 : Int) (r : S44) (h : value_Int k n0 = some r) : Con (X := UX) Try.prog 101 [.pv (.int .i64 n0)] [] (value_Int_enc r) [] :=
  con_of_body xok tok Try.func101 value_Int_body (value_Int_gok k) rfl (value_Int_cok k) (of_decide_eq_true (by kernel_rfl)) value_Int_dec_enc ((value_Int_eq k n0).trans h)
noncomputable def value_Int_an {ρ : Type} (k : Nat) : An UX ρ := fun args bx K =>
popA args fun v1 a2 =>
asI .i64 v1 fun n0 =>
popN a2 <|
popN bx <|
(value_Int k n0).bind fun r => K (value_Int_enc r) []
theorem value_Int_ok {ρ : Type} (k : Nat) : AnsOK Try.prog 101 (value_Int_an (ρ := ρ) k) := by
  intro args bx K r h
  unfold value_Int_an at h
  replace h := popA_inv h; obtain ⟨v1, a2, rfl, h⟩ := h
  replace h := asI_inv h; obtain ⟨n0, rfl, h⟩ := h
  replace h := popN_inv h; obtain ⟨rfl, h⟩ := h
  replace h := popN_inv h; obtain ⟨rfl, h⟩ := h
  replace h := bind_inv h
  obtain ⟨x, hx, h⟩ := h
  exact ⟨there_of Try.func101 (by kernel_rfl) value_Int_body, _, _, h, value_Int_con k n0 x hx⟩

/-! cadastre/record.take -/
noncomputable def record_take_code : Code := match Try.f69.body with | some c => c | none => .skip
theorem record_take_body : Try.f69.body = some record_take_code := by kernel_rfl
noncomputable def record_take_G {ρ : Type} (k : Nat) : Ans UX ρ := gk 101 (value_Int_an k) (gk 72 (record_widths_an k) (gk 54 (record_kind_an k) (gnil)))
theorem record_take_gok {ρ : Type} (k : Nat) : GOK Try.prog (record_take_G (ρ := ρ) k) := gok_cons (value_Int_ok k) (gok_cons (record_widths_ok k) (gok_cons (record_kind_ok k) (gok_nil)))
noncomputable def record_take_j7_s {ρ : Type} (k : Nat) : Run UX ρ := fun s K =>
popS 0 s.env fun v1 e2 =>
asI .u64 v1 fun t0 =>
popS 1 e2 fun v3 e4 =>
as_li_u8 v3 fun b1 =>
popS 4 e4 fun v5 e6 =>
asP 4 0 v5 <|
popN e6 <|
popB 4 s.hp fun c7 e8 =>
popA c7 fun v9 c10 =>
asI .i64 v9 fun z11 =>
popA c10 fun v12 c13 =>
asI .i64 v12 fun z14 =>
popA c13 fun v15 c16 =>
asS v15 fun z17 =>
popN c16 <|
popN e8 <|
record_take_j7 k (fun t0 b1 n7 v4 => K .nxt ⟨[(0, .pv (.int .u64 t0)), (1, .pv (.typ (.li_u8 b1))), (4, .ptr 4 0), (7, .pv (.int .i64 n7))], [(4, [.pv (.int .i64 v4.f0), .pv (.int .i64 v4.f1), .pv (.str v4.f2)])]⟩) (fun rest5 is6 v4 => K .ret ⟨[(4, .ptr 4 0), (5, .pv (.typ (.li_u8 rest5))), (6, .pv (.bool is6))], [(4, [.pv (.int .i64 v4.f0), .pv (.int .i64 v4.f1), .pv (.str v4.f2)])]⟩) t0 b1 (⟨z11, z14, z17⟩ : S44)
noncomputable def record_take_j22_s {ρ : Type} (k : Nat) : Run UX ρ := fun s K =>
popS 0 s.env fun v1 e2 =>
asI .u64 v1 fun t0 =>
popS 1 e2 fun v3 e4 =>
as_li_u8 v3 fun b1 =>
popS 4 e4 fun v5 e6 =>
asP 4 0 v5 <|
popS 7 e6 fun v7 e8 =>
asI .i64 v7 fun n7 =>
popN e8 <|
popB 4 s.hp fun c9 e10 =>
popA c9 fun v11 c12 =>
asI .i64 v11 fun z13 =>
popA c12 fun v14 c15 =>
asI .i64 v14 fun z16 =>
popA c15 fun v17 c18 =>
asS v17 fun z19 =>
popN c18 <|
popN e10 <|
record_take_j22 k (fun rest5 is6 v4 => K .ret ⟨[(4, .ptr 4 0), (5, .pv (.typ (.li_u8 rest5))), (6, .pv (.bool is6))], [(4, [.pv (.int .i64 v4.f0), .pv (.int .i64 v4.f1), .pv (.str v4.f2)])]⟩) t0 b1 n7 (⟨z13, z16, z19⟩ : S44)
noncomputable def record_take_l17_s {ρ : Type} (k : Nat) : Run UX ρ := fun s K =>
popS 0 s.env fun v1 e2 =>
asI .u64 v1 fun t0 =>
popS 1 e2 fun v3 e4 =>
as_li_u8 v3 fun b1 =>
popS 4 e4 fun v5 e6 =>
asP 4 0 v5 <|
popS 7 e6 fun v7 e8 =>
asI .i64 v7 fun n7 =>
popS 8 e8 fun v9 e10 =>
asI .i64 v9 fun x8 =>
popS 69 e10 fun v11 e12 =>
as_li_u8 v11 fun t69 =>
popS 70 e12 fun v13 e14 =>
asI .i64 v13 fun t70 =>
popS 71 e14 fun v15 e16 =>
asI .i64 v15 fun t71 =>
popN e16 <|
popB 4 s.hp fun c17 e18 =>
popA c17 fun v19 c20 =>
asI .i64 v19 fun z21 =>
popA c20 fun v22 c23 =>
asI .i64 v22 fun z24 =>
popA c23 fun v25 c26 =>
asS v25 fun z27 =>
popN c26 <|
popN e18 <|
record_take_l17 k (fun t0 b1 n7 x8 v4 => K (.exit 1) ⟨[(0, .pv (.int .u64 t0)), (1, .pv (.typ (.li_u8 b1))), (4, .ptr 4 0), (7, .pv (.int .i64 n7)), (8, .pv (.int .i64 x8))], [(4, [.pv (.int .i64 v4.f0), .pv (.int .i64 v4.f1), .pv (.str v4.f2)])]⟩) k t0 b1 n7 x8 t69 t70 t71 (⟨z21, z24, z27⟩ : S44)
noncomputable def record_take_j11_s {ρ : Type} (k : Nat) : Run UX ρ := fun s K =>
popS 0 s.env fun v1 e2 =>
asI .u64 v1 fun t0 =>
popS 1 e2 fun v3 e4 =>
as_li_u8 v3 fun b1 =>
popS 4 e4 fun v5 e6 =>
asP 4 0 v5 <|
popS 7 e6 fun v7 e8 =>
asI .i64 v7 fun n7 =>
popN e8 <|
popB 4 s.hp fun c9 e10 =>
popA c9 fun v11 c12 =>
asI .i64 v11 fun z13 =>
popA c12 fun v14 c15 =>
asI .i64 v14 fun z16 =>
popA c15 fun v17 c18 =>
asS v17 fun z19 =>
popN c18 <|
popN e10 <|
record_take_j11 k (fun rest5 is6 v4 => K .ret ⟨[(4, .ptr 4 0), (5, .pv (.typ (.li_u8 rest5))), (6, .pv (.bool is6))], [(4, [.pv (.int .i64 v4.f0), .pv (.int .i64 v4.f1), .pv (.str v4.f2)])]⟩) t0 b1 n7 (⟨z13, z16, z19⟩ : S44)
noncomputable def record_take_cfg {ρ : Type} (k : Nat) : Cfg UX ρ where
  live i := (assoc [(0, [0, 1]), (1, [0, 1, 4]), (2, [0, 1, 4]), (3, [0, 1, 4]), (4, [1, 4]), (5, [0, 1, 4]), (6, [0, 1, 4]), (7, [0, 1, 4]), (8, [0, 1, 4]), (9, [0, 1, 4]), (10, [4]), (11, [0, 1, 4, 7]), (12, [4]), (13, [0, 1, 4, 7]), (14, [0, 1, 4, 7]), (15, [0, 1, 4, 7]), (16, [0, 1, 4, 7, 8]), (17, [0, 1, 4, 7, 8, 69, 70, 71]), (18, [0, 1, 4, 7, 8, 69, 70, 71]), (19, [0, 1, 4, 7, 8, 10, 69, 70, 71]), (20, [0, 1, 4, 7, 8, 69, 70, 71]), (21, [0, 1, 4, 7, 8]), (22, [0, 1, 4, 7])] i).getD []
  boxes i := (assoc [(0, []), (1, [4]), (2, [4]), (3, [4]), (4, [4]), (5, [4]), (6, [4]), (7, [4]), (8, [4]), (9, [4]), (10, [4]), (11, [4]), (12, [4]), (13, [4]), (14, [4]), (15, [4]), (16, [4]), (17, [4]), (18, [4]), (19, [4]), (20, [4]), (21, [4]), (22, [4])] i).getD []
  tk i := (assoc [] i).getD []
  n := 91
  labelR l := (assoc [] l).getD 0
  loops := assoc [(17, record_take_l17_s k)]
  labels := assoc []
  joins := assoc [(7, record_take_j7_s k), (22, record_take_j22_s k), (11, record_take_j11_s k)]
  xl i e := match e with
    | .nxt => assoc [(7, ([0, 1, 4, 7], [4]))] i
    | .ret => assoc [(7, ([4, 5, 6], [4])), (22, ([4, 5, 6], [4])), (11, ([4, 5, 6], [4]))] i
    | .exit j => (assoc [(17, [(1, ([0, 1, 4, 7, 8], [4]))])] i).bind fun l => assoc l j
    | .goto j => (assoc [] i).bind fun l => assoc l j
noncomputable def record_take_L : List Code := selI [17] (loopsOf record_take_code)
noncomputable def record_take_J : List Code := selI [7, 22, 11] (joinsOf record_take_code)
noncomputable def record_take_S : List Code := scopesOf record_take_code
theorem record_take_l17_eq0 {ρ : Type} (k : Nat) (K : Ex → St UU → Option ρ) : ∀ (n : Nat) (v : Int × (List Int) × Int × Int × (List Int) × Int × Int × S44), iterK UX (fun s => s.at (record_take_cfg (ρ := ρ) k).live (record_take_cfg (ρ := ρ) k).boxes (some 17)) (exec UX (record_take_cfg k) (record_take_G k) (record_take_L.getD 0 .skip)) n ⟨[(0, .pv (.int .u64 v.1)), (1, .pv (.typ (.li_u8 v.2.1))), (4, .ptr 4 0), (7, .pv (.int .i64 v.2.2.1)), (8, .pv (.int .i64 v.2.2.2.1)), (69, .pv (.typ (.li_u8 v.2.2.2.2.1))), (70, .pv (.int .i64 v.2.2.2.2.2.1)), (71, .pv (.int .i64 v.2.2.2.2.2.2.1))], [(4, [.pv (.int .i64 v.2.2.2.2.2.2.2.f0), .pv (.int .i64 v.2.2.2.2.2.2.2.f1), .pv (.str v.2.2.2.2.2.2.2.f2)])]⟩ (nrmK UX (record_take_cfg k) 17 K) = record_take_l17 k (fun t0 b1 n7 x8 v4 => K (.exit 1) ⟨[(0, .pv (.int .u64 t0)), (1, .pv (.typ (.li_u8 b1))), (4, .ptr 4 0), (7, .pv (.int .i64 n7)), (8, .pv (.int .i64 x8))], [(4, [.pv (.int .i64 v4.f0), .pv (.int .i64 v4.f1), .pv (.str v4.f2)])]⟩) n v.1 v.2.1 v.2.2.1 v.2.2.2.1 v.2.2.2.2.1 v.2.2.2.2.2.1 v.2.2.2.2.2.2.1 v.2.2.2.2.2.2.2 :=
  iter_rec (X := UX) (fun v => ⟨[(0, .pv (.int .u64 v.1)), (1, .pv (.typ (.li_u8 v.2.1))), (4, .ptr 4 0), (7, .pv (.int .i64 v.2.2.1)), (8, .pv (.int .i64 v.2.2.2.1)), (69, .pv (.typ (.li_u8 v.2.2.2.2.1))), (70, .pv (.int .i64 v.2.2.2.2.2.1)), (71, .pv (.int .i64 v.2.2.2.2.2.2.1))], [(4, [.pv (.int .i64 v.2.2.2.2.2.2.2.f0), .pv (.int .i64 v.2.2.2.2.2.2.2.f1), .pv (.str v.2.2.2.2.2.2.2.f2)])]⟩) (fun rec v => record_take_l17_b k (fun t0 b1 n7 x8 v4 => K (.exit 1) ⟨[(0, .pv (.int .u64 t0)), (1, .pv (.typ (.li_u8 b1))), (4, .ptr 4 0), (7, .pv (.int .i64 n7)), (8, .pv (.int .i64 x8))], [(4, [.pv (.int .i64 v4.f0), .pv (.int .i64 v4.f1), .pv (.str v4.f2)])]⟩) (fun t0 b1 n7 x8 t69 t70 t71 v4 => rec (t0, b1, n7, x8, t69, t70, t71, v4)) v.1 v.2.1 v.2.2.1 v.2.2.2.1 v.2.2.2.2.1 v.2.2.2.2.2.1 v.2.2.2.2.2.2.1 v.2.2.2.2.2.2.2) (fun n v => record_take_l17 k (fun t0 b1 n7 x8 v4 => K (.exit 1) ⟨[(0, .pv (.int .u64 t0)), (1, .pv (.typ (.li_u8 b1))), (4, .ptr 4 0), (7, .pv (.int .i64 n7)), (8, .pv (.int .i64 x8))], [(4, [.pv (.int .i64 v4.f0), .pv (.int .i64 v4.f1), .pv (.str v4.f2)])]⟩) n v.1 v.2.1 v.2.2.1 v.2.2.2.1 v.2.2.2.2.1 v.2.2.2.2.2.1 v.2.2.2.2.2.2.1 v.2.2.2.2.2.2.2) (fun n v => by kernel_rfl) (fun _ => rfl) (fun _ _ => rfl)
theorem record_take_l17_ok0 {ρ : Type} (k : Nat) : IterOK UX (record_take_cfg (ρ := ρ) k) (record_take_G k) (record_take_L.getD 0 .skip) 17 (record_take_l17_s k) := by
  intro s K r h
  obtain ⟨env, hp⟩ := s
  unfold record_take_l17_s at h
  replace h := popS_inv h; obtain ⟨v1, e2, rfl, h⟩ := h
  replace h := asI_inv h; obtain ⟨t0, rfl, h⟩ := h
  replace h := popS_inv h; obtain ⟨v3, e4, rfl, h⟩ := h
  replace h := as_li_u8_inv h; obtain ⟨b1, rfl, h⟩ := h
  replace h := popS_inv h; obtain ⟨v5, e6, rfl, h⟩ := h
  replace h := asP_inv h; obtain ⟨rfl, h⟩ := h
  replace h := popS_inv h; obtain ⟨v7, e8, rfl, h⟩ := h
  replace h := asI_inv h; obtain ⟨n7, rfl, h⟩ := h
  replace h := popS_inv h; obtain ⟨v9, e10, rfl, h⟩ := h
  replace h := asI_inv h; obtain ⟨x8, rfl, h⟩ := h
  replace h := popS_inv h; obtain ⟨v11, e12, rfl, h⟩ := h
  replace h := as_li_u8_inv h; obtain ⟨t69, rfl, h⟩ := h
  replace h := popS_inv h; obtain ⟨v13, e14, rfl, h⟩ := h
  replace h := asI_inv h; obtain ⟨t70, rfl, h⟩ := h
  replace h := popS_inv h; obtain ⟨v15, e16, rfl, h⟩ := h
  replace h := asI_inv h; obtain ⟨t71, rfl, h⟩ := h
  replace h := popN_inv h; obtain ⟨rfl, h⟩ := h
  replace h := popB_inv h; obtain ⟨c17, e18, rfl, h⟩ := h
  replace h := popA_inv h; obtain ⟨v19, c20, rfl, h⟩ := h
  replace h := asI_inv h; obtain ⟨z21, rfl, h⟩ := h
  replace h := popA_inv h; obtain ⟨v22, c23, rfl, h⟩ := h
  replace h := asI_inv h; obtain ⟨z24, rfl, h⟩ := h
  replace h := popA_inv h; obtain ⟨v25, c26, rfl, h⟩ := h
  replace h := asS_inv h; obtain ⟨z27, rfl, h⟩ := h
  replace h := popN_inv h; obtain ⟨rfl, h⟩ := h
  replace h := popN_inv h; obtain ⟨rfl, h⟩ := h
  exact ⟨k, (record_take_l17_eq0 k K k (t0, b1, n7, x8, t69, t70, t71, (⟨z21, z24, z27⟩ : S44))).trans h⟩
theorem record_take_j11_eq0 {ρ : Type} (k : Nat) (K : Ex → St UU → Option ρ) (t0 : Int) (b1 : List Int) (n7 : Int) (v4 : S44) : exec UX (record_take_cfg k) (record_take_G k) (record_take_J.getD 0 .skip) ⟨[(0, .pv (.int .u64 t0)), (1, .pv (.typ (.li_u8 b1))), (4, .ptr 4 0), (7, .pv (.int .i64 n7))], [(4, [.pv (.int .i64 v4.f0), .pv (.int .i64 v4.f1), .pv (.str v4.f2)])]⟩ (nrmK UX (record_take_cfg k) 11 K) = record_take_j11 k (fun rest5 is6 v4 => K .ret ⟨[(4, .ptr 4 0), (5, .pv (.typ (.li_u8 rest5))), (6, .pv (.bool is6))], [(4, [.pv (.int .i64 v4.f0), .pv (.int .i64 v4.f1), .pv (.str v4.f2)])]⟩) t0 b1 n7 v4 := by kernel_rfl
theorem record_take_j11_ok0 {ρ : Type} (k : Nat) : JoinOK UX (record_take_cfg (ρ := ρ) k) (record_take_G k) (record_take_J.getD 0 .skip) 11 (record_take_j11_s k) := by
  intro s K r h
  obtain ⟨env, hp⟩ := s
  unfold record_take_j11_s at h
  replace h := popS_inv h; obtain ⟨v1, e2, rfl, h⟩ := h
  replace h := asI_inv h; obtain ⟨t0, rfl, h⟩ := h
  replace h := popS_inv h; obtain ⟨v3, e4, rfl, h⟩ := h
  replace h := as_li_u8_inv h; obtain ⟨b1, rfl, h⟩ := h
  replace h := popS_inv h; obtain ⟨v5, e6, rfl, h⟩ := h
  replace h := asP_inv h; obtain ⟨rfl, h⟩ := h
  replace h := popS_inv h; obtain ⟨v7, e8, rfl, h⟩ := h
  replace h := asI_inv h; obtain ⟨n7, rfl, h⟩ := h
  replace h := popN_inv h; obtain ⟨rfl, h⟩ := h
  replace h := popB_inv h; obtain ⟨c9, e10, rfl, h⟩ := h
  replace h := popA_inv h; obtain ⟨v11, c12, rfl, h⟩ := h
  replace h := asI_inv h; obtain ⟨z13, rfl, h⟩ := h
  replace h := popA_inv h; obtain ⟨v14, c15, rfl, h⟩ := h
  replace h := asI_inv h; obtain ⟨z16, rfl, h⟩ := h
  replace h := popA_inv h; obtain ⟨v17, c18, rfl, h⟩ := h
  replace h := asS_inv h; obtain ⟨z19, rfl, h⟩ := h
  replace h := popN_inv h; obtain ⟨rfl, h⟩ := h
  replace h := popN_inv h; obtain ⟨rfl, h⟩ := h
  exact (record_take_j11_eq0 k K t0 b1 n7 (⟨z13, z16, z19⟩ : S44)).trans h
theorem record_take_j7_eq1 {ρ : Type} (k : Nat) (K : Ex → St UU → Option ρ) (t0 : Int) (b1 : List Int) (v4 : S44) : exec UX (record_take_cfg k) (record_take_G k) (record_take_J.getD 1 .skip) ⟨[(0, .pv (.int .u64 t0)), (1, .pv (.typ (.li_u8 b1))), (4, .ptr 4 0)], [(4, [.pv (.int .i64 v4.f0), .pv (.int .i64 v4.f1), .pv (.str v4.f2)])]⟩ (nrmK UX (record_take_cfg k) 7 K) = record_take_j7 k (fun t0 b1 n7 v4 => K .nxt ⟨[(0, .pv (.int .u64 t0)), (1, .pv (.typ (.li_u8 b1))), (4, .ptr 4 0), (7, .pv (.int .i64 n7))], [(4, [.pv (.int .i64 v4.f0), .pv (.int .i64 v4.f1), .pv (.str v4.f2)])]⟩) (fun rest5 is6 v4 => K .ret ⟨[(4, .ptr 4 0), (5, .pv (.typ (.li_u8 rest5))), (6, .pv (.bool is6))], [(4, [.pv (.int .i64 v4.f0), .pv (.int .i64 v4.f1), .pv (.str v4.f2)])]⟩) t0 b1 v4 := by kernel_rfl
theorem record_take_j7_ok1 {ρ : Type} (k : Nat) : JoinOK UX (record_take_cfg (ρ := ρ) k) (record_take_G k) (record_take_J.getD 1 .skip) 7 (record_take_j7_s k) := by
  intro s K r h
  obtain ⟨env, hp⟩ := s
  unfold record_take_j7_s at h
  replace h := popS_inv h; obtain ⟨v1, e2, rfl, h⟩ := h
  replace h := asI_inv h; obtain ⟨t0, rfl, h⟩ := h
  replace h := popS_inv h; obtain ⟨v3, e4, rfl, h⟩ := h
  replace h := as_li_u8_inv h; obtain ⟨b1, rfl, h⟩ := h
  replace h := popS_inv h; obtain ⟨v5, e6, rfl, h⟩ := h
  replace h := asP_inv h; obtain ⟨rfl, h⟩ := h
  replace h := popN_inv h; obtain ⟨rfl, h⟩ := h
  replace h := popB_inv h; obtain ⟨c7, e8, rfl, h⟩ := h
  replace h := popA_inv h; obtain ⟨v9, c10, rfl, h⟩ := h
  replace h := asI_inv h; obtain ⟨z11, rfl, h⟩ := h
  replace h := popA_inv h; obtain ⟨v12, c13, rfl, h⟩ := h
  replace h := asI_inv h; obtain ⟨z14, rfl, h⟩ := h
  replace h := popA_inv h; obtain ⟨v15, c16, rfl, h⟩ := h
  replace h := asS_inv h; obtain ⟨z17, rfl, h⟩ := h
  replace h := popN_inv h; obtain ⟨rfl, h⟩ := h
  replace h := popN_inv h; obtain ⟨rfl, h⟩ := h
  exact (record_take_j7_eq1 k K t0 b1 (⟨z11, z14, z17⟩ : S44)).trans h
theorem record_take_j22_eq2 {ρ : Type} (k : Nat) (K : Ex → St UU → Option ρ) (t0 : Int) (b1 : List Int) (n7 : Int) (v4 : S44) : exec UX (record_take_cfg k) (record_take_G k) (record_take_J.getD 2 .skip) ⟨[(0, .pv (.int .u64 t0)), (1, .pv (.typ (.li_u8 b1))), (4, .ptr 4 0), (7, .pv (.int .i64 n7))], [(4, [.pv (.int .i64 v4.f0), .pv (.int .i64 v4.f1), .pv (.str v4.f2)])]⟩ (nrmK UX (record_take_cfg k) 22 K) = record_take_j22 k (fun rest5 is6 v4 => K .ret ⟨[(4, .ptr 4 0), (5, .pv (.typ (.li_u8 rest5))), (6, .pv (.bool is6))], [(4, [.pv (.int .i64 v4.f0), .pv (.int .i64 v4.f1), .pv (.str v4.f2)])]⟩) t0 b1 n7 v4 := by kernel_rfl
theorem record_take_j22_ok2 {ρ : Type} (k : Nat) : JoinOK UX (record_take_cfg (ρ := ρ) k) (record_take_G k) (record_take_J.getD 2 .skip) 22 (record_take_j22_s k) := by
  intro s K r h
  obtain ⟨env, hp⟩ := s
  unfold record_take_j22_s at h
  replace h := popS_inv h; obtain ⟨v1, e2, rfl, h⟩ := h
  replace h := asI_inv h; obtain ⟨t0, rfl, h⟩ := h
  replace h := popS_inv h; obtain ⟨v3, e4, rfl, h⟩ := h
  replace h := as_li_u8_inv h; obtain ⟨b1, rfl, h⟩ := h
  replace h := popS_inv h; obtain ⟨v5, e6, rfl, h⟩ := h
  replace h := asP_inv h; obtain ⟨rfl, h⟩ := h
  replace h := popS_inv h; obtain ⟨v7, e8, rfl, h⟩ := h
  replace h := asI_inv h; obtain ⟨n7, rfl, h⟩ := h
  replace h := popN_inv h; obtain ⟨rfl, h⟩ := h
  replace h := popB_inv h; obtain ⟨c9, e10, rfl, h⟩ := h
  replace h := popA_inv h; obtain ⟨v11, c12, rfl, h⟩ := h
  replace h := asI_inv h; obtain ⟨z13, rfl, h⟩ := h
  replace h := popA_inv h; obtain ⟨v14, c15, rfl, h⟩ := h
  replace h := asI_inv h; obtain ⟨z16, rfl, h⟩ := h
  replace h := popA_inv h; obtain ⟨v17, c18, rfl, h⟩ := h
  replace h := asS_inv h; obtain ⟨z19, rfl, h⟩ := h
  replace h := popN_inv h; obtain ⟨rfl, h⟩ := h
  replace h := popN_inv h; obtain ⟨rfl, h⟩ := h
  exact (record_take_j22_eq2 k K t0 b1 n7 (⟨z13, z16, z19⟩ : S44)).trans h
theorem record_take_cok {ρ : Type} (k : Nat) : COK (record_take_cfg (ρ := ρ) k) (record_take_G k) record_take_code :=
  cok_of (tl := [(17, record_take_l17_s k)]) (tj := [(7, record_take_j7_s k), (22, record_take_j22_s k), (11, record_take_j11_s k)]) (tb := []) rfl rfl rfl (all_nth 1 (by kernel_rfl) ⟨iter_case (by kernel_rfl) rfl (record_take_l17_ok0 k), trivial⟩) (all_nth 3 (by kernel_rfl) ⟨join_case (by kernel_rfl) rfl (record_take_j22_ok2 k), join_case (by kernel_rfl) rfl (record_take_j7_ok1 k), join_case (by kernel_rfl) rfl (record_take_j11_ok0 k), trivial⟩) (fun p hp => by cases hp)
noncomputable def record_take_enc (r : S44 × (List Int) × Bool) : AV UU := .pv (.tup [.typ (.s44 r.1), .typ (.li_u8 r.2.1), .bool r.2.2])
noncomputable def record_take_dec (v : AV UU) (_ : List (List (AV UU))) : Option (S44 × (List Int) × Bool) :=
asT v fun q1 =>
popA q1 fun p2 q3 =>
as_s44 (.pv p2) fun r0 =>
popA q3 fun p4 q5 =>
as_li_u8 (.pv p4) fun r1 =>
popA q5 fun p6 q7 =>
asB (.pv p6) fun r2 =>
popN q7 <|
some (r0, r1, r2)
theorem record_take_dec_enc (v : AV UU) (b : List (List (AV UU))) (r : S44 × (List Int) × Bool) (h : record_take_dec v b = some r) : v = record_take_enc r := by
  unfold record_take_dec at h
  replace h := asT_inv h; obtain ⟨q1, rfl, h⟩ := h
  replace h := popA_inv h; obtain ⟨p2, q3, rfl, h⟩ := h
  replace h := as_s44_inv h; obtain ⟨r0, e, h⟩ := h; cases e
  replace h := popA_inv h; obtain ⟨p4, q5, rfl, h⟩ := h
  replace h := as_li_u8_inv h; obtain ⟨r1, e, h⟩ := h; cases e
  replace h := popA_inv h; obtain ⟨p6, q7, rfl, h⟩ := h
  replace h := asB_inv h; obtain ⟨r2, e, h⟩ := h; cases e
  replace h := popN_inv h; obtain ⟨rfl, h⟩ := h
  cases h
  rfl
theorem record_take_eq (k : Nat) (t0 : Int) (b1 : List Int) : bodyK UX (record_take_cfg k) (record_take_G k) Try.f69 [.pv (.int .u64 t0), .pv (.typ (.li_u8 b1))] [] record_take_dec = record_take k t0 b1 := by kernel_rfl
theorem record_take_con (k : Nat) (t0 : Int) (b1 : List Int) (r : S44 × (List Int) × Bool) (h : record_take k t0 b1 = some r) : Con (X := UX) Try.prog 69 [.pv (.int .u64 t0), .pv (.typ (.li_u8 b1))] [] (record_take_enc r) [] :=
  con_of_body xok tok Try.func69 record_take_body (record_take_gok k) rfl (record_take_cok k) (of_decide_eq_true (by kernel_rfl)) record_take_dec_enc ((record_take_eq k t0 b1).trans h)
noncomputable def record_take_an {ρ : Type} (k : Nat) : An UX ρ := fun args bx K =>
popA args fun v1 a2 =>
asI .u64 v1 fun t0 =>
popA a2 fun v3 a4 =>
as_li_u8 v3 fun b1 =>
popN a4 <|
popN bx <|
(record_take k t0 b1).bind fun r => K (record_take_enc r) []
theorem record_take_ok {ρ : Type} (k : Nat) : AnsOK Try.prog 69 (record_take_an (ρ := ρ) k) := by
  intro args bx K r h
  unfold record_take_an at h
  replace h := popA_inv h; obtain ⟨v1, a2, rfl, h⟩ := h
  replace h := asI_inv h; obtain ⟨t0, rfl, h⟩ := h
  replace h := popA_inv h; obtain ⟨v3, a4, rfl, h⟩ := h
  replace h := as_li_u8_inv h; obtain ⟨b1, rfl, h⟩ := h
  replace h := popN_inv h; obtain ⟨rfl, h⟩ := h
  replace h := popN_inv h; obtain ⟨rfl, h⟩ := h
  replace h := bind_inv h
  obtain ⟨x, hx, h⟩ := h
  exact ⟨there_of Try.func69 (by kernel_rfl) record_take_body, _, _, h, record_take_con k t0 b1 x hx⟩

/-! cadastre/record.Decode -/
noncomputable def record_Decode_code : Code := match Try.f47.body with | some c => c | none => .skip
theorem record_Decode_body : Try.f47.body = some record_Decode_code := by kernel_rfl
noncomputable def record_Decode_G {ρ : Type} (k : Nat) : Ans UX ρ := gk 68 (varint_Get_an k) (gk 69 (record_take_an k) (gnil))
theorem record_Decode_gok {ρ : Type} (k : Nat) : GOK Try.prog (record_Decode_G (ρ := ρ) k) := gok_cons (varint_Get_ok k) (gok_cons (record_take_ok k) (gok_nil))
noncomputable def record_Decode_l8_s {ρ : Type} (k : Nat) : Run UX ρ := fun s K =>
popS 4 s.env fun v1 e2 =>
asO_l44 v1 fun l4 =>
popS 5 e2 fun v3 e4 =>
asO_li_u64 v3 fun types5 =>
popS 6 e4 fun v5 e6 =>
as_li_u8 v5 fun rest6 =>
popS 38 e6 fun v7 e8 =>
asI .u64 v7 fun t38 =>
popS 39 e8 fun v9 e10 =>
asI .u64 v9 fun t39 =>
popN e10 <|
popN s.hp <|
record_Decode_l8 k (K (.goto 0) ⟨[], []⟩) (fun l4 types5 rest6 => K (.exit 0) ⟨[(4, .own (.l44 l4)), (5, .own (.li_u64 types5)), (6, .pv (.typ (.li_u8 rest6)))], []⟩) k l4 types5 rest6 t38 t39
noncomputable def record_Decode_l15_s {ρ : Type} (k : Nat) : Run UX ρ := fun s K =>
popS 4 s.env fun v1 e2 =>
asO_l44 v1 fun l4 =>
popS 5 e2 fun v3 e4 =>
asO_li_u64 v3 fun types5 =>
popS 6 e4 fun v5 e6 =>
as_li_u8 v5 fun rest6 =>
popS 57 e6 fun v7 e8 =>
asL 5 v7 <|
popS 58 e8 fun v9 e10 =>
asI .i64 v9 fun t58 =>
popS 59 e10 fun v11 e12 =>
asI .i64 v11 fun t59 =>
popN e12 <|
popN s.hp <|
record_Decode_l15 k (K (.goto 0) ⟨[], []⟩) (fun l4 rest6 => K (.exit 2) ⟨[(4, .own (.l44 l4)), (6, .pv (.typ (.li_u8 rest6)))], []⟩) k l4 types5 rest6 t58 t59
noncomputable def record_Decode_j6_s {ρ : Type} (k : Nat) : Run UX ρ := fun s K =>
popS 4 s.env fun v1 e2 =>
asO_l44 v1 fun l4 =>
popS 5 e2 fun v3 e4 =>
asO_li_u64 v3 fun types5 =>
popS 6 e4 fun v5 e6 =>
as_li_u8 v5 fun rest6 =>
popS 7 e6 fun v7 e8 =>
asI .u64 v7 fun n7 =>
popS 8 e8 fun v9 e10 =>
asI .i64 v9 fun size8 =>
popN e10 <|
popN s.hp <|
record_Decode_j6 k (K (.goto 0) ⟨[], []⟩) (fun t2 t3 => K .ret ⟨[(2, .own (.l44 t2)), (3, .pv (.int .i64 t3))], []⟩) l4 types5 rest6 n7 size8
noncomputable def record_Decode_cfg {ρ : Type} (k : Nat) : Cfg UX ρ where
  live i := (assoc [(0, [0]), (1, [0]), (2, [0, 4]), (3, [0, 4, 5]), (4, [0, 4, 5, 6]), (5, [0, 4, 5, 6, 7, 8, 9]), (6, [4, 5, 6, 7, 8]), (7, [4, 5, 6, 7]), (8, [4, 5, 6, 38, 39]), (9, [4, 5, 6, 38, 39]), (10, [4, 5, 6, 10, 11, 12, 38, 39]), (11, [4, 5, 6, 10, 11, 38, 39]), (12, [4, 5, 6, 11, 38, 39]), (13, [4, 5, 6, 38, 39]), (14, [4, 5, 6]), (15, [4, 5, 6, 57, 58, 59]), (16, [4, 5, 6, 57, 58, 59]), (17, [4, 5, 6, 14, 57, 58, 59]), (18, [4, 5, 6, 14, 15, 57, 58, 59]), (19, [4, 5, 6, 14, 15, 57, 58, 59]), (20, [4, 5, 6, 15, 16, 57, 58, 59]), (21, [4, 5, 6, 15, 57, 58, 59]), (22, [4, 5, 6, 57, 58, 59]), (23, [4, 6]), (24, [4]), (25, [])] i).getD []
  boxes i := (assoc [(0, []), (1, []), (2, []), (3, []), (4, []), (5, []), (6, []), (7, []), (8, []), (9, []), (10, []), (11, []), (12, []), (13, []), (14, []), (15, []), (16, []), (17, []), (18, [15]), (19, [15]), (20, [15]), (21, [15]), (22, []), (23, []), (24, []), (25, [])] i).getD []
  tk i := (assoc [(1000000, [2, 4, 5])] i).getD []
  n := 81
  labelR l := (assoc [] l).getD 0
  loops := assoc [(8, record_Decode_l8_s k), (15, record_Decode_l15_s k)]
  labels := assoc []
  joins := assoc [(6, record_Decode_j6_s k)]
  xl i e := match e with
    | .nxt => assoc [] i
    | .ret => assoc [(6, ([2, 3], []))] i
    | .exit j => (assoc [(8, [(0, ([4, 5, 6], []))]), (15, [(2, ([4, 6], []))])] i).bind fun l => assoc l j
    | .goto j => (assoc [(8, [(0, ([], []))]), (15, [(0, ([], []))]), (6, [(0, ([], []))])] i).bind fun l => assoc l j
noncomputable def record_Decode_L : List Code := selI [8, 15] (loopsOf record_Decode_code)
noncomputable def record_Decode_J : List Code := selI [6] (joinsOf record_Decode_code)
noncomputable def record_Decode_S : List Code := scopesOf record_Decode_code
theorem record_Decode_l8_eq0 {ρ : Type} (k : Nat) (K : Ex → St UU → Option ρ) : ∀ (n : Nat) (v : (List S44) × (List Int) × (List Int) × Int × Int), iterK UX (fun s => s.at (record_Decode_cfg (ρ := ρ) k).live (record_Decode_cfg (ρ := ρ) k).boxes (some 8)) (exec UX (record_Decode_cfg k) (record_Decode_G k) (record_Decode_L.getD 0 .skip)) n ⟨[(4, .own (.l44 v.1)), (5, .own (.li_u64 v.2.1)), (6, .pv (.typ (.li_u8 v.2.2.1))), (38, .pv (.int .u64 v.2.2.2.1)), (39, .pv (.int .u64 v.2.2.2.2))], []⟩ (nrmK UX (record_Decode_cfg k) 8 K) = record_Decode_l8 k (K (.goto 0) ⟨[], []⟩) (fun l4 types5 rest6 => K (.exit 0) ⟨[(4, .own (.l44 l4)), (5, .own (.li_u64 types5)), (6, .pv (.typ (.li_u8 rest6)))], []⟩) n v.1 v.2.1 v.2.2.1 v.2.2.2.1 v.2.2.2.2 :=
  iter_rec (X := UX) (fun v => ⟨[(4, .own (.l44 v.1)), (5, .own (.li_u64 v.2.1)), (6, .pv (.typ (.li_u8 v.2.2.1))), (38, .pv (.int .u64 v.2.2.2.1)), (39, .pv (.int .u64 v.2.2.2.2))], []⟩) (fun rec v => record_Decode_l8_b k (K (.goto 0) ⟨[], []⟩) (fun l4 types5 rest6 => K (.exit 0) ⟨[(4, .own (.l44 l4)), (5, .own (.li_u64 types5)), (6, .pv (.typ (.li_u8 rest6)))], []⟩) (fun l4 types5 rest6 t38 t39 => rec (l4, types5, rest6, t38, t39)) v.1 v.2.1 v.2.2.1 v.2.2.2.1 v.2.2.2.2) (fun n v => record_Decode_l8 k (K (.goto 0) ⟨[], []⟩) (fun l4 types5 rest6 => K (.exit 0) ⟨[(4, .own (.l44 l4)), (5, .own (.li_u64 types5)), (6, .pv (.typ (.li_u8 rest6)))], []⟩) n v.1 v.2.1 v.2.2.1 v.2.2.2.1 v.2.2.2.2) (fun n v => by kernel_rfl) (fun _ => rfl) (fun _ _ => rfl)
theorem record_Decode_l8_ok0 {ρ : Type} (k : Nat) : IterOK UX (record_Decode_cfg (ρ := ρ) k) (record_Decode_G k) (record_Decode_L.getD 0 .skip) 8 (record_Decode_l8_s k) := by
  intro s K r h
  obtain ⟨env, hp⟩ := s
  unfold record_Decode_l8_s at h
  replace h := popS_inv h; obtain ⟨v1, e2, rfl, h⟩ := h
  replace h := asO_l44_inv h; obtain ⟨l4, rfl, h⟩ := h
  replace h := popS_inv h; obtain ⟨v3, e4, rfl, h⟩ := h
  replace h := asO_li_u64_inv h; obtain ⟨types5, rfl, h⟩ := h
  replace h := popS_inv h; obtain ⟨v5, e6, rfl, h⟩ := h
  replace h := as_li_u8_inv h; obtain ⟨rest6, rfl, h⟩ := h
  replace h := popS_inv h; obtain ⟨v7, e8, rfl, h⟩ := h
  replace h := asI_inv h; obtain ⟨t38, rfl, h⟩ := h
  replace h := popS_inv h; obtain ⟨v9, e10, rfl, h⟩ := h
  replace h := asI_inv h; obtain ⟨t39, rfl, h⟩ := h
  replace h := popN_inv h; obtain ⟨rfl, h⟩ := h
  replace h := popN_inv h; obtain ⟨rfl, h⟩ := h
  exact ⟨k, (record_Decode_l8_eq0 k K k (l4, types5, rest6, t38, t39)).trans h⟩
theorem record_Decode_l15_eq1 {ρ : Type} (k : Nat) (K : Ex → St UU → Option ρ) : ∀ (n : Nat) (v : (List S44) × (List Int) × (List Int) × Int × Int), iterK UX (fun s => s.at (record_Decode_cfg (ρ := ρ) k).live (record_Decode_cfg (ρ := ρ) k).boxes (some 15)) (exec UX (record_Decode_cfg k) (record_Decode_G k) (record_Decode_L.getD 1 .skip)) n ⟨[(4, .own (.l44 v.1)), (5, .own (.li_u64 v.2.1)), (6, .pv (.typ (.li_u8 v.2.2.1))), (57, .bor (.slot 5)), (58, .pv (.int .i64 v.2.2.2.1)), (59, .pv (.int .i64 v.2.2.2.2))], []⟩ (nrmK UX (record_Decode_cfg k) 15 K) = record_Decode_l15 k (K (.goto 0) ⟨[], []⟩) (fun l4 rest6 => K (.exit 2) ⟨[(4, .own (.l44 l4)), (6, .pv (.typ (.li_u8 rest6)))], []⟩) n v.1 v.2.1 v.2.2.1 v.2.2.2.1 v.2.2.2.2 :=
  iter_rec (X := UX) (fun v => ⟨[(4, .own (.l44 v.1)), (5, .own (.li_u64 v.2.1)), (6, .pv (.typ (.li_u8 v.2.2.1))), (57, .bor (.slot 5)), (58, .pv (.int .i64 v.2.2.2.1)), (59, .pv (.int .i64 v.2.2.2.2))], []⟩) (fun rec v => record_Decode_l15_b k (K (.goto 0) ⟨[], []⟩) (fun l4 rest6 => K (.exit 2) ⟨[(4, .own (.l44 l4)), (6, .pv (.typ (.li_u8 rest6)))], []⟩) (fun l4 types5 rest6 t58 t59 => rec (l4, types5, rest6, t58, t59)) v.1 v.2.1 v.2.2.1 v.2.2.2.1 v.2.2.2.2) (fun n v => record_Decode_l15 k (K (.goto 0) ⟨[], []⟩) (fun l4 rest6 => K (.exit 2) ⟨[(4, .own (.l44 l4)), (6, .pv (.typ (.li_u8 rest6)))], []⟩) n v.1 v.2.1 v.2.2.1 v.2.2.2.1 v.2.2.2.2) (fun n v => by kernel_rfl) (fun _ => rfl) (fun _ _ => rfl)
theorem record_Decode_l15_ok1 {ρ : Type} (k : Nat) : IterOK UX (record_Decode_cfg (ρ := ρ) k) (record_Decode_G k) (record_Decode_L.getD 1 .skip) 15 (record_Decode_l15_s k) := by
  intro s K r h
  obtain ⟨env, hp⟩ := s
  unfold record_Decode_l15_s at h
  replace h := popS_inv h; obtain ⟨v1, e2, rfl, h⟩ := h
  replace h := asO_l44_inv h; obtain ⟨l4, rfl, h⟩ := h
  replace h := popS_inv h; obtain ⟨v3, e4, rfl, h⟩ := h
  replace h := asO_li_u64_inv h; obtain ⟨types5, rfl, h⟩ := h
  replace h := popS_inv h; obtain ⟨v5, e6, rfl, h⟩ := h
  replace h := as_li_u8_inv h; obtain ⟨rest6, rfl, h⟩ := h
  replace h := popS_inv h; obtain ⟨v7, e8, rfl, h⟩ := h
  replace h := asL_inv h; obtain ⟨rfl, h⟩ := h
  replace h := popS_inv h; obtain ⟨v9, e10, rfl, h⟩ := h
  replace h := asI_inv h; obtain ⟨t58, rfl, h⟩ := h
  replace h := popS_inv h; obtain ⟨v11, e12, rfl, h⟩ := h
  replace h := asI_inv h; obtain ⟨t59, rfl, h⟩ := h
  replace h := popN_inv h; obtain ⟨rfl, h⟩ := h
  replace h := popN_inv h; obtain ⟨rfl, h⟩ := h
  exact ⟨k, (record_Decode_l15_eq1 k K k (l4, types5, rest6, t58, t59)).trans h⟩
theorem record_Decode_j6_eq0 {ρ : Type} (k : Nat) (K : Ex → St UU → Option ρ) (l4 : List S44) (types5 : List Int) (rest6 : List Int) (n7 : Int) (size8 : Int) : exec UX (record_Decode_cfg k) (record_Decode_G k) (record_Decode_J.getD 0 .skip) ⟨[(4, .own (.l44 l4)), (5, .own (.li_u64 types5)), (6, .pv (.typ (.li_u8 rest6))), (7, .pv (.int .u64 n7)), (8, .pv (.int .i64 size8))], []⟩ (nrmK UX (record_Decode_cfg k) 6 K) = record_Decode_j6 k (K (.goto 0) ⟨[], []⟩) (fun t2 t3 => K .ret ⟨[(2, .own (.l44 t2)), (3, .pv (.int .i64 t3))], []⟩) l4 types5 rest6 n7 size8 := by kernel_rfl
theorem record_Decode_j6_ok0 {ρ : Type} (k : Nat) : JoinOK UX (record_Decode_cfg (ρ := ρ) k) (record_Decode_G k) (record_Decode_J.getD 0 .skip) 6 (record_Decode_j6_s k) := by
  intro s K r h
  obtain ⟨env, hp⟩ := s
  unfold record_Decode_j6_s at h
  replace h := popS_inv h; obtain ⟨v1, e2, rfl, h⟩ := h
  replace h := asO_l44_inv h; obtain ⟨l4, rfl, h⟩ := h
  replace h := popS_inv h; obtain ⟨v3, e4, rfl, h⟩ := h
  replace h := asO_li_u64_inv h; obtain ⟨types5, rfl, h⟩ := h
  replace h := popS_inv h; obtain ⟨v5, e6, rfl, h⟩ := h
  replace h := as_li_u8_inv h; obtain ⟨rest6, rfl, h⟩ := h
  replace h := popS_inv h; obtain ⟨v7, e8, rfl, h⟩ := h
  replace h := asI_inv h; obtain ⟨n7, rfl, h⟩ := h
  replace h := popS_inv h; obtain ⟨v9, e10, rfl, h⟩ := h
  replace h := asI_inv h; obtain ⟨size8, rfl, h⟩ := h
  replace h := popN_inv h; obtain ⟨rfl, h⟩ := h
  replace h := popN_inv h; obtain ⟨rfl, h⟩ := h
  exact (record_Decode_j6_eq0 k K l4 types5 rest6 n7 size8).trans h
theorem record_Decode_cok {ρ : Type} (k : Nat) : COK (record_Decode_cfg (ρ := ρ) k) (record_Decode_G k) record_Decode_code :=
  cok_of (tl := [(8, record_Decode_l8_s k), (15, record_Decode_l15_s k)]) (tj := [(6, record_Decode_j6_s k)]) (tb := []) rfl rfl rfl (all_nth 2 (by kernel_rfl) ⟨iter_case (by kernel_rfl) rfl (record_Decode_l15_ok1 k), iter_case (by kernel_rfl) rfl (record_Decode_l8_ok0 k), trivial⟩) (all_nth 1 (by kernel_rfl) ⟨join_case (by kernel_rfl) rfl (record_Decode_j6_ok0 k), trivial⟩) (fun p hp => by cases hp)
noncomputable def record_Decode_enc (r : (List S44) × Int) : AV UU := .pv (.tup [.typ (.l44 r.1), .int .i64 r.2])
noncomputable def record_Decode_dec (v : AV UU) (_ : List (List (AV UU))) : Option ((List S44) × Int) :=
asT v fun q1 =>
popA q1 fun p2 q3 =>
as_l44 (.pv p2) fun r0 =>
popA q3 fun p4 q5 =>
asI .i64 (.pv p4) fun r1 =>
popN q5 <|
some (r0, r1)
theorem record_Decode_dec_enc (v : AV UU) (b : List (List (AV UU))) (r : (List S44) × Int) (h : record_Decode_dec v b = some r) : v = record_Decode_enc r := by
  unfold record_Decode_dec at h
  replace h := asT_inv h; obtain ⟨q1, rfl, h⟩ := h
  replace h := popA_inv h; obtain ⟨p2, q3, rfl, h⟩ := h
  replace h := as_l44_inv h; obtain ⟨r0, e, h⟩ := h; cases e
  replace h := popA_inv h; obtain ⟨p4, q5, rfl, h⟩ := h
  replace h := asI_inv h; obtain ⟨r1, e, h⟩ := h; cases e
  replace h := popN_inv h; obtain ⟨rfl, h⟩ := h
  cases h
  rfl
theorem record_Decode_eq (k : Nat) (b0 : List Int) : bodyK UX (record_Decode_cfg k) (record_Decode_G k) Try.f47 [.pv (.typ (.li_u8 b0))] [] record_Decode_dec = record_Decode k b0 := by kernel_rfl
theorem record_Decode_con (k : Nat) (b0 : List Int) (r : (List S44) × Int) (h : record_Decode k b0 = some r) : Con (X := UX) Try.prog 47 [.pv (.typ (.li_u8 b0))] [] (record_Decode_enc r) [] :=
  con_of_body xok tok Try.func47 record_Decode_body (record_Decode_gok k) rfl (record_Decode_cok k) (of_decide_eq_true (by kernel_rfl)) record_Decode_dec_enc ((record_Decode_eq k b0).trans h)
noncomputable def record_Decode_an {ρ : Type} (k : Nat) : An UX ρ := fun args bx K =>
popA args fun v1 a2 =>
as_li_u8 v1 fun b0 =>
popN a2 <|
popN bx <|
(record_Decode k b0).bind fun r => K (record_Decode_enc r) []
theorem record_Decode_ok {ρ : Type} (k : Nat) : AnsOK Try.prog 47 (record_Decode_an (ρ := ρ) k) := by
  intro args bx K r h
  unfold record_Decode_an at h
  replace h := popA_inv h; obtain ⟨v1, a2, rfl, h⟩ := h
  replace h := as_li_u8_inv h; obtain ⟨b0, rfl, h⟩ := h
  replace h := popN_inv h; obtain ⟨rfl, h⟩ := h
  replace h := popN_inv h; obtain ⟨rfl, h⟩ := h
  replace h := bind_inv h
  obtain ⟨x, hx, h⟩ := h
  exact ⟨there_of Try.func47 (by kernel_rfl) record_Decode_body, _, _, h, record_Decode_con k b0 x hx⟩

/-! cadastre/cadastreref0.CopyBytes -/
noncomputable def cadastreref0_CopyBytes_code : Code := match Try.f33.body with | some c => c | none => .skip
theorem cadastreref0_CopyBytes_body : Try.f33.body = some cadastreref0_CopyBytes_code := by kernel_rfl
noncomputable def cadastreref0_CopyBytes_G {ρ : Type} (k : Nat) : Ans UX ρ := gnil
theorem cadastreref0_CopyBytes_gok {ρ : Type} (k : Nat) : GOK Try.prog (cadastreref0_CopyBytes_G (ρ := ρ) k) := gok_nil
noncomputable def cadastreref0_CopyBytes_l3_s {ρ : Type} (k : Nat) : Run UX ρ := fun s K =>
popS 0 s.env fun v1 e2 =>
as_li_u8 v1 fun l0 =>
popS 3 e2 fun v3 e4 =>
asO_li_u8 v3 fun m3 =>
popS 4 e4 fun v5 e6 =>
asI .i64 v5 fun i4 =>
popN e6 <|
popN s.hp <|
cadastreref0_CopyBytes_l3 k (fun m3 => K (.exit 0) ⟨[(3, .own (.li_u8 m3))], []⟩) k l0 m3 i4
noncomputable def cadastreref0_CopyBytes_cfg {ρ : Type} (k : Nat) : Cfg UX ρ where
  live i := (assoc [(0, [0]), (1, [0]), (2, [0, 3]), (3, [0, 3, 4]), (4, [0, 3, 4]), (5, [0, 3, 4]), (6, [3])] i).getD []
  boxes i := (assoc [(0, []), (1, []), (2, []), (3, []), (4, []), (5, []), (6, [])] i).getD []
  tk i := (assoc [(1000000, [2, 3])] i).getD []
  n := 19
  labelR l := (assoc [] l).getD 0
  loops := assoc [(3, cadastreref0_CopyBytes_l3_s k)]
  labels := assoc []
  joins := assoc []
  xl i e := match e with
    | .nxt => assoc [] i
    | .ret => assoc [] i
    | .exit j => (assoc [(3, [(0, ([3], []))])] i).bind fun l => assoc l j
    | .goto j => (assoc [] i).bind fun l => assoc l j
noncomputable def cadastreref0_CopyBytes_L : List Code := selI [3] (loopsOf cadastreref0_CopyBytes_code)
noncomputable def cadastreref0_CopyBytes_J : List Code := selI [] (joinsOf cadastreref0_CopyBytes_code)
noncomputable def cadastreref0_CopyBytes_S : List Code := scopesOf cadastreref0_CopyBytes_code
theorem cadastreref0_CopyBytes_l3_eq0 {ρ : Type} (k : Nat) (K : Ex → St UU → Option ρ) : ∀ (n : Nat) (v : (List Int) × (List Int) × Int), iterK UX (fun s => s.at (cadastreref0_CopyBytes_cfg (ρ := ρ) k).live (cadastreref0_CopyBytes_cfg (ρ := ρ) k).boxes (some 3)) (exec UX (cadastreref0_CopyBytes_cfg k) (cadastreref0_CopyBytes_G k) (cadastreref0_CopyBytes_L.getD 0 .skip)) n ⟨[(0, .pv (.typ (.li_u8 v.1))), (3, .own (.li_u8 v.2.1)), (4, .pv (.int .i64 v.2.2))], []⟩ (nrmK UX (cadastreref0_CopyBytes_cfg k) 3 K) = cadastreref0_CopyBytes_l3 k (fun m3 => K (.exit 0) ⟨[(3, .own (.li_u8 m3))], []⟩) n v.1 v.2.1 v.2.2 :=
  iter_rec (X := UX) (fun v => ⟨[(0, .pv (.typ (.li_u8 v.1))), (3, .own (.li_u8 v.2.1)), (4, .pv (.int .i64 v.2.2))], []⟩) (fun rec v => cadastreref0_CopyBytes_l3_b k (fun m3 => K (.exit 0) ⟨[(3, .own (.li_u8 m3))], []⟩) (fun l0 m3 i4 => rec (l0, m3, i4)) v.1 v.2.1 v.2.2) (fun n v => cadastreref0_CopyBytes_l3 k (fun m3 => K (.exit 0) ⟨[(3, .own (.li_u8 m3))], []⟩) n v.1 v.2.1 v.2.2) (fun n v => by kernel_rfl) (fun _ => rfl) (fun _ _ => rfl)
theorem cadastreref0_CopyBytes_l3_ok0 {ρ : Type} (k : Nat) : IterOK UX (cadastreref0_CopyBytes_cfg (ρ := ρ) k) (cadastreref0_CopyBytes_G k) (cadastreref0_CopyBytes_L.getD 0 .skip) 3 (cadastreref0_CopyBytes_l3_s k) := by
  intro s K r h
  obtain ⟨env, hp⟩ := s
  unfold cadastreref0_CopyBytes_l3_s at h
  replace h := popS_inv h; obtain ⟨v1, e2, rfl, h⟩ := h
  replace h := as_li_u8_inv h; obtain ⟨l0, rfl, h⟩ := h
  replace h := popS_inv h; obtain ⟨v3, e4, rfl, h⟩ := h
  replace h := asO_li_u8_inv h; obtain ⟨m3, rfl, h⟩ := h
  replace h := popS_inv h; obtain ⟨v5, e6, rfl, h⟩ := h
  replace h := asI_inv h; obtain ⟨i4, rfl, h⟩ := h
  replace h := popN_inv h; obtain ⟨rfl, h⟩ := h
  replace h := popN_inv h; obtain ⟨rfl, h⟩ := h
  exact ⟨k, (cadastreref0_CopyBytes_l3_eq0 k K k (l0, m3, i4)).trans h⟩
theorem cadastreref0_CopyBytes_cok {ρ : Type} (k : Nat) : COK (cadastreref0_CopyBytes_cfg (ρ := ρ) k) (cadastreref0_CopyBytes_G k) cadastreref0_CopyBytes_code :=
  cok_of (tl := [(3, cadastreref0_CopyBytes_l3_s k)]) (tj := []) (tb := []) rfl rfl rfl (all_nth 1 (by kernel_rfl) ⟨iter_case (by kernel_rfl) rfl (cadastreref0_CopyBytes_l3_ok0 k), trivial⟩) (nil_all (by kernel_rfl)) (fun p hp => by cases hp)
noncomputable def cadastreref0_CopyBytes_enc (r : (List Int)) : AV UU := .own (.li_u8 r)
noncomputable def cadastreref0_CopyBytes_dec (v : AV UU) (_ : List (List (AV UU))) : Option (List Int) :=
asO_li_u8 v fun r =>
some r
theorem cadastreref0_CopyBytes_dec_enc (v : AV UU) (b : List (List (AV UU))) (r : (List Int)) (h : cadastreref0_CopyBytes_dec v b = some r) : v = cadastreref0_CopyBytes_enc r := by
  unfold cadastreref0_CopyBytes_dec at h
  replace h := asO_li_u8_inv h; obtain ⟨r, rfl, h⟩ := h
  cases h
  rfl
theorem cadastreref0_CopyBytes_eq (k : Nat) (l0 : List Int) : bodyK UX (cadastreref0_CopyBytes_cfg k) (cadastreref0_CopyBytes_G k) Try.f33 [.pv (.typ (.li_u8 l0))] [] cadastreref0_CopyBytes_dec = cadastreref0_CopyBytes k l0 := by kernel_rfl
theorem cadastreref0_CopyBytes_con (k : Nat) (l0 : List Int) (r : (List Int)) (h : cadastreref0_CopyBytes k l0 = some r) : Con (X := UX) Try.prog 33 [.pv (.typ (.li_u8 l0))] [] (cadastreref0_CopyBytes_enc r) [] :=
  con_of_body xok tok Try.func33 cadastreref0_CopyBytes_body (cadastreref0_CopyBytes_gok k) rfl (cadastreref0_CopyBytes_cok k) (of_decide_eq_true (by kernel_rfl)) cadastreref0_CopyBytes_dec_enc ((cadastreref0_CopyBytes_eq k l0).trans h)
noncomputable def cadastreref0_CopyBytes_an {ρ : Type} (k : Nat) : An UX ρ := fun args bx K =>
popA args fun v1 a2 =>
as_li_u8 v1 fun l0 =>
popN a2 <|
popN bx <|
(cadastreref0_CopyBytes k l0).bind fun r => K (cadastreref0_CopyBytes_enc r) []
theorem cadastreref0_CopyBytes_ok {ρ : Type} (k : Nat) : AnsOK Try.prog 33 (cadastreref0_CopyBytes_an (ρ := ρ) k) := by
  intro args bx K r h
  unfold cadastreref0_CopyBytes_an at h
  replace h := popA_inv h; obtain ⟨v1, a2, rfl, h⟩ := h
  replace h := as_li_u8_inv h; obtain ⟨l0, rfl, h⟩ := h
  replace h := popN_inv h; obtain ⟨rfl, h⟩ := h
  replace h := popN_inv h; obtain ⟨rfl, h⟩ := h
  replace h := bind_inv h
  obtain ⟨x, hx, h⟩ := h
  exact ⟨there_of Try.func33 (by kernel_rfl) cadastreref0_CopyBytes_body, _, _, h, cadastreref0_CopyBytes_con k l0 x hx⟩

/-! cadastre/cadastreref0.EqValues -/
noncomputable def cadastreref0_EqValues_code : Code := match Try.f45.body with | some c => c | none => .skip
theorem cadastreref0_EqValues_body : Try.f45.body = some cadastreref0_EqValues_code := by kernel_rfl
noncomputable def cadastreref0_EqValues_G {ρ : Type} (k : Nat) : Ans UX ρ := gnil
theorem cadastreref0_EqValues_gok {ρ : Type} (k : Nat) : GOK Try.prog (cadastreref0_EqValues_G (ρ := ρ) k) := gok_nil
noncomputable def cadastreref0_EqValues_l4_s {ρ : Type} (k : Nat) : Run UX ρ := fun s K =>
popS 0 s.env fun v1 e2 =>
as_l44 v1 fun a0 =>
popS 1 e2 fun v3 e4 =>
as_l44 v3 fun b1 =>
popS 5 e4 fun v5 e6 =>
asI .i64 v5 fun i5 =>
popN e6 <|
popN s.hp <|
cadastreref0_EqValues_l4 k (fun t4 => K .ret ⟨[(4, .pv (.bool t4))], []⟩) (K (.exit 0) ⟨[], []⟩) k a0 b1 i5
noncomputable def cadastreref0_EqValues_cfg {ρ : Type} (k : Nat) : Cfg UX ρ where
  live i := (assoc [(0, [0, 1]), (1, [0, 1]), (2, []), (3, [0, 1]), (4, [0, 1, 5]), (5, [0, 1, 5]), (6, [0, 1, 5]), (7, []), (8, [])] i).getD []
  boxes i := (assoc [(0, []), (1, []), (2, []), (3, []), (4, []), (5, []), (6, []), (7, []), (8, [])] i).getD []
  tk i := (assoc [] i).getD []
  n := 26
  labelR l := (assoc [] l).getD 0
  loops := assoc [(4, cadastreref0_EqValues_l4_s k)]
  labels := assoc []
  joins := assoc []
  xl i e := match e with
    | .nxt => assoc [] i
    | .ret => assoc [(4, ([4], []))] i
    | .exit j => (assoc [(4, [(0, ([], []))])] i).bind fun l => assoc l j
    | .goto j => (assoc [] i).bind fun l => assoc l j
noncomputable def cadastreref0_EqValues_L : List Code := selI [4] (loopsOf cadastreref0_EqValues_code)
noncomputable def cadastreref0_EqValues_J : List Code := selI [] (joinsOf cadastreref0_EqValues_code)
noncomputable def cadastreref0_EqValues_S : List Code := scopesOf cadastreref0_EqValues_code
theorem cadastreref0_EqValues_l4_eq0 {ρ : Type} (k : Nat) (K : Ex → St UU → Option ρ) : ∀ (n : Nat) (v : (List S44) × (List S44) × Int), iterK UX (fun s => s.at (cadastreref0_EqValues_cfg (ρ := ρ) k).live (cadastreref0_EqValues_cfg (ρ := ρ) k).boxes (some 4)) (exec UX (cadastreref0_EqValues_cfg k) (cadastreref0_EqValues_G k) (cadastreref0_EqValues_L.getD 0 .skip)) n ⟨[(0, .pv (.typ (.l44 v.1))), (1, .pv (.typ (.l44 v.2.1))), (5, .pv (.int .i64 v.2.2))], []⟩ (nrmK UX (cadastreref0_EqValues_cfg k) 4 K) = cadastreref0_EqValues_l4 k (fun t4 => K .ret ⟨[(4, .pv (.bool t4))], []⟩) (K (.exit 0) ⟨[], []⟩) n v.1 v.2.1 v.2.2 :=
  iter_rec (X := UX) (fun v => ⟨[(0, .pv (.typ (.l44 v.1))), (1, .pv (.typ (.l44 v.2.1))), (5, .pv (.int .i64 v.2.2))], []⟩) (fun rec v => cadastreref0_EqValues_l4_b k (fun t4 => K .ret ⟨[(4, .pv (.bool t4))], []⟩) (K (.exit 0) ⟨[], []⟩) (fun a0 b1 i5 => rec (a0, b1, i5)) v.1 v.2.1 v.2.2) (fun n v => cadastreref0_EqValues_l4 k (fun t4 => K .ret ⟨[(4, .pv (.bool t4))], []⟩) (K (.exit 0) ⟨[], []⟩) n v.1 v.2.1 v.2.2) (fun n v => by kernel_rfl) (fun _ => rfl) (fun _ _ => rfl)
theorem cadastreref0_EqValues_l4_ok0 {ρ : Type} (k : Nat) : IterOK UX (cadastreref0_EqValues_cfg (ρ := ρ) k) (cadastreref0_EqValues_G k) (cadastreref0_EqValues_L.getD 0 .skip) 4 (cadastreref0_EqValues_l4_s k) := by
  intro s K r h
  obtain ⟨env, hp⟩ := s
  unfold cadastreref0_EqValues_l4_s at h
  replace h := popS_inv h; obtain ⟨v1, e2, rfl, h⟩ := h
  replace h := as_l44_inv h; obtain ⟨a0, rfl, h⟩ := h
  replace h := popS_inv h; obtain ⟨v3, e4, rfl, h⟩ := h
  replace h := as_l44_inv h; obtain ⟨b1, rfl, h⟩ := h
  replace h := popS_inv h; obtain ⟨v5, e6, rfl, h⟩ := h
  replace h := asI_inv h; obtain ⟨i5, rfl, h⟩ := h
  replace h := popN_inv h; obtain ⟨rfl, h⟩ := h
  replace h := popN_inv h; obtain ⟨rfl, h⟩ := h
  exact ⟨k, (cadastreref0_EqValues_l4_eq0 k K k (a0, b1, i5)).trans h⟩
theorem cadastreref0_EqValues_cok {ρ : Type} (k : Nat) : COK (cadastreref0_EqValues_cfg (ρ := ρ) k) (cadastreref0_EqValues_G k) cadastreref0_EqValues_code :=
  cok_of (tl := [(4, cadastreref0_EqValues_l4_s k)]) (tj := []) (tb := []) rfl rfl rfl (all_nth 1 (by kernel_rfl) ⟨iter_case (by kernel_rfl) rfl (cadastreref0_EqValues_l4_ok0 k), trivial⟩) (nil_all (by kernel_rfl)) (fun p hp => by cases hp)
noncomputable def cadastreref0_EqValues_enc (r : Bool) : AV UU := .pv (.bool r)
noncomputable def cadastreref0_EqValues_dec (v : AV UU) (_ : List (List (AV UU))) : Option Bool :=
asB v fun r0 =>
some r0
theorem cadastreref0_EqValues_dec_enc (v : AV UU) (b : List (List (AV UU))) (r : Bool) (h : cadastreref0_EqValues_dec v b = some r) : v = cadastreref0_EqValues_enc r := by
  unfold cadastreref0_EqValues_dec at h
  replace h := asB_inv h; obtain ⟨r0, rfl, h⟩ := h
  cases h
  rfl
theorem cadastreref0_EqValues_eq (k : Nat) (a0 : List S44) (b1 : List S44) : bodyK UX (cadastreref0_EqValues_cfg k) (cadastreref0_EqValues_G k) Try.f45 [.pv (.typ (.l44 a0)), .pv (.typ (.l44 b1))] [] cadastreref0_EqValues_dec = cadastreref0_EqValues k a0 b1 := by kernel_rfl
theorem cadastreref0_EqValues_con (k : Nat) (a0 : List S44) (b1 : List S44) (r : Bool) (h : cadastreref0_EqValues k a0 b1 = some r) : Con (X := UX) Try.prog 45 [.pv (.typ (.l44 a0)), .pv (.typ (.l44 b1))] [] (cadastreref0_EqValues_enc r) [] :=
  con_of_body xok tok Try.func45 cadastreref0_EqValues_body (cadastreref0_EqValues_gok k) rfl (cadastreref0_EqValues_cok k) (of_decide_eq_true (by kernel_rfl)) cadastreref0_EqValues_dec_enc ((cadastreref0_EqValues_eq k a0 b1).trans h)
noncomputable def cadastreref0_EqValues_an {ρ : Type} (k : Nat) : An UX ρ := fun args bx K =>
popA args fun v1 a2 =>
as_l44 v1 fun a0 =>
popA a2 fun v3 a4 =>
as_l44 v3 fun b1 =>
popN a4 <|
popN bx <|
(cadastreref0_EqValues k a0 b1).bind fun r => K (cadastreref0_EqValues_enc r) []
theorem cadastreref0_EqValues_ok {ρ : Type} (k : Nat) : AnsOK Try.prog 45 (cadastreref0_EqValues_an (ρ := ρ) k) := by
  intro args bx K r h
  unfold cadastreref0_EqValues_an at h
  replace h := popA_inv h; obtain ⟨v1, a2, rfl, h⟩ := h
  replace h := as_l44_inv h; obtain ⟨a0, rfl, h⟩ := h
  replace h := popA_inv h; obtain ⟨v3, a4, rfl, h⟩ := h
  replace h := as_l44_inv h; obtain ⟨b1, rfl, h⟩ := h
  replace h := popN_inv h; obtain ⟨rfl, h⟩ := h
  replace h := popN_inv h; obtain ⟨rfl, h⟩ := h
  replace h := bind_inv h
  obtain ⟨x, hx, h⟩ := h
  exact ⟨there_of Try.func45 (by kernel_rfl) cadastreref0_EqValues_body, _, _, h, cadastreref0_EqValues_con k a0 b1 x hx⟩
end Go.Proofs.Ytekjibpkkgldgaa.R
