/-
  What the program's functions answer: the printed functions' answers.
-/
import Derived.Test.YtekjibpkkgldgaaMU
namespace Go.Proofs.Ytekjibpkkgldgaa.M
open Go Go.AX
/-! cadastre/cadastrelaw11.heavy -/
noncomputable def cadastrelaw11_heavy_code : Code := match Try.f16.body with | some c => c | none => .skip
theorem cadastrelaw11_heavy_body : Try.f16.body = some cadastrelaw11_heavy_code := by kernel_rfl
noncomputable def cadastrelaw11_heavy_G {ρ : Type} (k : Nat) : Ans UX ρ := gnil
theorem cadastrelaw11_heavy_gok {ρ : Type} (k : Nat) : GOK Try.prog (cadastrelaw11_heavy_G (ρ := ρ) k) := gok_nil
noncomputable def cadastrelaw11_heavy_j5_s {ρ : Type} (k : Nat) : Run UX ρ := fun s K =>
popS 1 s.env fun v1 e2 =>
asP 1 0 v1 <|
popS 3 e2 fun v3 e4 =>
asI .i64 v3 fun n3 =>
popS 4 e4 fun v5 e6 =>
asI .i64 v5 fun i4 =>
popN e6 <|
popB 1 s.hp fun c7 e8 =>
popA c7 fun v9 c10 =>
asI .i64 v9 fun z11 =>
popA c10 fun v12 c13 =>
asI .i64 v12 fun z14 =>
popA c13 fun v15 c16 =>
as_lli_u8 v15 fun z17 =>
popA c16 fun v18 c19 =>
as_li_u8 v18 fun z20 =>
popN c19 <|
popN e8 <|
cadastrelaw11_heavy_j5 k (fun n3 i4 p1 => K .nxt ⟨[(1, .ptr 1 0), (3, .pv (.int .i64 n3)), (4, .pv (.int .i64 i4))], [(1, [.pv (.int .i64 p1.f0), .pv (.int .i64 p1.f1), .pv (.typ (.lli_u8 p1.f2)), .pv (.typ (.li_u8 p1.f3))])]⟩) n3 i4 (⟨z11, z14, z17, z20⟩ : S26)
noncomputable def cadastrelaw11_heavy_l3_s {ρ : Type} (k : Nat) : Run UX ρ := fun s K =>
popS 1 s.env fun v1 e2 =>
asP 1 0 v1 <|
popS 3 e2 fun v3 e4 =>
asI .i64 v3 fun n3 =>
popS 4 e4 fun v5 e6 =>
asI .i64 v5 fun i4 =>
popN e6 <|
popB 1 s.hp fun c7 e8 =>
popA c7 fun v9 c10 =>
asI .i64 v9 fun z11 =>
popA c10 fun v12 c13 =>
asI .i64 v12 fun z14 =>
popA c13 fun v15 c16 =>
as_lli_u8 v15 fun z17 =>
popA c16 fun v18 c19 =>
as_li_u8 v18 fun z20 =>
popN c19 <|
popN e8 <|
cadastrelaw11_heavy_l3 k (fun n3 p1 => K (.exit 0) ⟨[(1, .ptr 1 0), (3, .pv (.int .i64 n3))], [(1, [.pv (.int .i64 p1.f0), .pv (.int .i64 p1.f1), .pv (.typ (.lli_u8 p1.f2)), .pv (.typ (.li_u8 p1.f3))])]⟩) k n3 i4 (⟨z11, z14, z17, z20⟩ : S26)
noncomputable def cadastrelaw11_heavy_cfg {ρ : Type} (k : Nat) : Cfg UX ρ where
  live i := (assoc [(0, [0]), (1, [1]), (2, [1, 3]), (3, [1, 3, 4]), (4, [1, 3, 4]), (5, [1, 3, 4]), (6, [1, 3])] i).getD []
  boxes i := (assoc [(0, []), (1, [1]), (2, [1]), (3, [1]), (4, [1]), (5, [1]), (6, [1])] i).getD []
  tk i := (assoc [] i).getD []
  n := 35
  labelR l := (assoc [] l).getD 0
  loops := assoc [(3, cadastrelaw11_heavy_l3_s k)]
  labels := assoc []
  joins := assoc [(5, cadastrelaw11_heavy_j5_s k)]
  xl i e := match e with
    | .nxt => assoc [(5, ([1, 3, 4], [1]))] i
    | .ret => assoc [] i
    | .exit j => (assoc [(3, [(0, ([1, 3], [1]))])] i).bind fun l => assoc l j
    | .goto j => (assoc [] i).bind fun l => assoc l j
noncomputable def cadastrelaw11_heavy_L : List Code := selI [3] (loopsOf cadastrelaw11_heavy_code)
noncomputable def cadastrelaw11_heavy_J : List Code := selI [5] (joinsOf cadastrelaw11_heavy_code)
noncomputable def cadastrelaw11_heavy_S : List Code := scopesOf cadastrelaw11_heavy_code
theorem cadastrelaw11_heavy_l3_eq0 {ρ : Type} (k : Nat) (K : Ex → St UU → Option ρ) : ∀ (n : Nat) (v : Int × Int × S26), iterK UX (fun s => s.at (cadastrelaw11_heavy_cfg (ρ := ρ) k).live (cadastrelaw11_heavy_cfg (ρ := ρ) k).boxes (some 3)) (exec UX (cadastrelaw11_heavy_cfg k) (cadastrelaw11_heavy_G k) (cadastrelaw11_heavy_L.getD 0 .skip)) n ⟨[(1, .ptr 1 0), (3, .pv (.int .i64 v.1)), (4, .pv (.int .i64 v.2.1))], [(1, [.pv (.int .i64 v.2.2.f0), .pv (.int .i64 v.2.2.f1), .pv (.typ (.lli_u8 v.2.2.f2)), .pv (.typ (.li_u8 v.2.2.f3))])]⟩ (nrmK UX (cadastrelaw11_heavy_cfg k) 3 K) = cadastrelaw11_heavy_l3 k (fun n3 p1 => K (.exit 0) ⟨[(1, .ptr 1 0), (3, .pv (.int .i64 n3))], [(1, [.pv (.int .i64 p1.f0), .pv (.int .i64 p1.f1), .pv (.typ (.lli_u8 p1.f2)), .pv (.typ (.li_u8 p1.f3))])]⟩) n v.1 v.2.1 v.2.2 :=
  iter_rec (X := UX) (fun v => ⟨[(1, .ptr 1 0), (3, .pv (.int .i64 v.1)), (4, .pv (.int .i64 v.2.1))], [(1, [.pv (.int .i64 v.2.2.f0), .pv (.int .i64 v.2.2.f1), .pv (.typ (.lli_u8 v.2.2.f2)), .pv (.typ (.li_u8 v.2.2.f3))])]⟩) (fun rec v => cadastrelaw11_heavy_l3_b k (fun n3 p1 => K (.exit 0) ⟨[(1, .ptr 1 0), (3, .pv (.int .i64 n3))], [(1, [.pv (.int .i64 p1.f0), .pv (.int .i64 p1.f1), .pv (.typ (.lli_u8 p1.f2)), .pv (.typ (.li_u8 p1.f3))])]⟩) (fun n3 i4 p1 => rec (n3, i4, p1)) v.1 v.2.1 v.2.2) (fun n v => cadastrelaw11_heavy_l3 k (fun n3 p1 => K (.exit 0) ⟨[(1, .ptr 1 0), (3, .pv (.int .i64 n3))], [(1, [.pv (.int .i64 p1.f0), .pv (.int .i64 p1.f1), .pv (.typ (.lli_u8 p1.f2)), .pv (.typ (.li_u8 p1.f3))])]⟩) n v.1 v.2.1 v.2.2) (fun n v => by kernel_rfl) (fun _ => rfl) (fun _ _ => rfl)
theorem cadastrelaw11_heavy_l3_ok0 {ρ : Type} (k : Nat) : IterOK UX (cadastrelaw11_heavy_cfg (ρ := ρ) k) (cadastrelaw11_heavy_G k) (cadastrelaw11_heavy_L.getD 0 .skip) 3 (cadastrelaw11_heavy_l3_s k) := by
  intro s K r h
  obtain ⟨env, hp⟩ := s
  unfold cadastrelaw11_heavy_l3_s at h
  replace h := popS_inv h; obtain ⟨v1, e2, rfl, h⟩ := h
  replace h := asP_inv h; obtain ⟨rfl, h⟩ := h
  replace h := popS_inv h; obtain ⟨v3, e4, rfl, h⟩ := h
  replace h := asI_inv h; obtain ⟨n3, rfl, h⟩ := h
  replace h := popS_inv h; obtain ⟨v5, e6, rfl, h⟩ := h
  replace h := asI_inv h; obtain ⟨i4, rfl, h⟩ := h
  replace h := popN_inv h; obtain ⟨rfl, h⟩ := h
  replace h := popB_inv h; obtain ⟨c7, e8, rfl, h⟩ := h
  replace h := popA_inv h; obtain ⟨v9, c10, rfl, h⟩ := h
  replace h := asI_inv h; obtain ⟨z11, rfl, h⟩ := h
  replace h := popA_inv h; obtain ⟨v12, c13, rfl, h⟩ := h
  replace h := asI_inv h; obtain ⟨z14, rfl, h⟩ := h
  replace h := popA_inv h; obtain ⟨v15, c16, rfl, h⟩ := h
  replace h := as_lli_u8_inv h; obtain ⟨z17, rfl, h⟩ := h
  replace h := popA_inv h; obtain ⟨v18, c19, rfl, h⟩ := h
  replace h := as_li_u8_inv h; obtain ⟨z20, rfl, h⟩ := h
  replace h := popN_inv h; obtain ⟨rfl, h⟩ := h
  replace h := popN_inv h; obtain ⟨rfl, h⟩ := h
  exact ⟨k, (cadastrelaw11_heavy_l3_eq0 k K k (n3, i4, (⟨z11, z14, z17, z20⟩ : S26))).trans h⟩
theorem cadastrelaw11_heavy_j5_eq0 {ρ : Type} (k : Nat) (K : Ex → St UU → Option ρ) (n3 : Int) (i4 : Int) (p1 : S26) : exec UX (cadastrelaw11_heavy_cfg k) (cadastrelaw11_heavy_G k) (cadastrelaw11_heavy_J.getD 0 .skip) ⟨[(1, .ptr 1 0), (3, .pv (.int .i64 n3)), (4, .pv (.int .i64 i4))], [(1, [.pv (.int .i64 p1.f0), .pv (.int .i64 p1.f1), .pv (.typ (.lli_u8 p1.f2)), .pv (.typ (.li_u8 p1.f3))])]⟩ (nrmK UX (cadastrelaw11_heavy_cfg k) 5 K) = cadastrelaw11_heavy_j5 k (fun n3 i4 p1 => K .nxt ⟨[(1, .ptr 1 0), (3, .pv (.int .i64 n3)), (4, .pv (.int .i64 i4))], [(1, [.pv (.int .i64 p1.f0), .pv (.int .i64 p1.f1), .pv (.typ (.lli_u8 p1.f2)), .pv (.typ (.li_u8 p1.f3))])]⟩) n3 i4 p1 := by kernel_rfl
theorem cadastrelaw11_heavy_j5_ok0 {ρ : Type} (k : Nat) : JoinOK UX (cadastrelaw11_heavy_cfg (ρ := ρ) k) (cadastrelaw11_heavy_G k) (cadastrelaw11_heavy_J.getD 0 .skip) 5 (cadastrelaw11_heavy_j5_s k) := by
  intro s K r h
  obtain ⟨env, hp⟩ := s
  unfold cadastrelaw11_heavy_j5_s at h
  replace h := popS_inv h; obtain ⟨v1, e2, rfl, h⟩ := h
  replace h := asP_inv h; obtain ⟨rfl, h⟩ := h
  replace h := popS_inv h; obtain ⟨v3, e4, rfl, h⟩ := h
  replace h := asI_inv h; obtain ⟨n3, rfl, h⟩ := h
  replace h := popS_inv h; obtain ⟨v5, e6, rfl, h⟩ := h
  replace h := asI_inv h; obtain ⟨i4, rfl, h⟩ := h
  replace h := popN_inv h; obtain ⟨rfl, h⟩ := h
  replace h := popB_inv h; obtain ⟨c7, e8, rfl, h⟩ := h
  replace h := popA_inv h; obtain ⟨v9, c10, rfl, h⟩ := h
  replace h := asI_inv h; obtain ⟨z11, rfl, h⟩ := h
  replace h := popA_inv h; obtain ⟨v12, c13, rfl, h⟩ := h
  replace h := asI_inv h; obtain ⟨z14, rfl, h⟩ := h
  replace h := popA_inv h; obtain ⟨v15, c16, rfl, h⟩ := h
  replace h := as_lli_u8_inv h; obtain ⟨z17, rfl, h⟩ := h
  replace h := popA_inv h; obtain ⟨v18, c19, rfl, h⟩ := h
  replace h := as_li_u8_inv h; obtain ⟨z20, rfl, h⟩ := h
  replace h := popN_inv h; obtain ⟨rfl, h⟩ := h
  replace h := popN_inv h; obtain ⟨rfl, h⟩ := h
  exact (cadastrelaw11_heavy_j5_eq0 k K n3 i4 (⟨z11, z14, z17, z20⟩ : S26)).trans h
theorem cadastrelaw11_heavy_cok {ρ : Type} (k : Nat) : COK (cadastrelaw11_heavy_cfg (ρ := ρ) k) (cadastrelaw11_heavy_G k) cadastrelaw11_heavy_code :=
  cok_of (tl := [(3, cadastrelaw11_heavy_l3_s k)]) (tj := [(5, cadastrelaw11_heavy_j5_s k)]) (tb := []) rfl rfl rfl (all_nth 1 (by kernel_rfl) ⟨iter_case (by kernel_rfl) rfl (cadastrelaw11_heavy_l3_ok0 k), trivial⟩) (all_nth 1 (by kernel_rfl) ⟨join_case (by kernel_rfl) rfl (cadastrelaw11_heavy_j5_ok0 k), trivial⟩) (fun p hp => by cases hp)
noncomputable def cadastrelaw11_heavy_enc (r : Bool) : AV UU := .pv (.bool r)
noncomputable def cadastrelaw11_heavy_dec (v : AV UU) (_ : List (List (AV UU))) : Option Bool :=
asB v fun r0 =>
some r0
theorem cadastrelaw11_heavy_dec_enc (v : AV UU) (b : List (List (AV UU))) (r : Bool) (h : cadastrelaw11_heavy_dec v b = some r) : v = cadastrelaw11_heavy_enc r := by
  unfold cadastrelaw11_heavy_dec at h
  replace h := asB_inv h; obtain ⟨r0, rfl, h⟩ := h
  cases h
  rfl
theorem cadastrelaw11_heavy_eq (k : Nat) (p0 : S26) : bodyK UX (cadastrelaw11_heavy_cfg k) (cadastrelaw11_heavy_G k) Try.f16 [.pv (.typ (.s26 p0))] [] cadastrelaw11_heavy_dec = cadastrelaw11_heavy k p0 := by kernel_rfl
theorem cadastrelaw11_heavy_con (k : Nat) (p0 : S26) (r : Bool) (h : cadastrelaw11_heavy k p0 = some r) : Con (X := UX) Try.prog 16 [.pv (.typ (.s26 p0))] [] (cadastrelaw11_heavy_enc r) [] :=
  con_of_body xok tok Try.func16 cadastrelaw11_heavy_body (cadastrelaw11_heavy_gok k) rfl (cadastrelaw11_heavy_cok k) (of_decide_eq_true (by kernel_rfl)) cadastrelaw11_heavy_dec_enc ((cadastrelaw11_heavy_eq k p0).trans h)
noncomputable def cadastrelaw11_heavy_an {ρ : Type} (k : Nat) : An UX ρ := fun args bx K =>
popA args fun v1 a2 =>
as_s26 v1 fun p0 =>
popN a2 <|
popN bx <|
(cadastrelaw11_heavy k p0).bind fun r => K (cadastrelaw11_heavy_enc r) []
theorem cadastrelaw11_heavy_ok {ρ : Type} (k : Nat) : AnsOK Try.prog 16 (cadastrelaw11_heavy_an (ρ := ρ) k) := by
  intro args bx K r h
  unfold cadastrelaw11_heavy_an at h
  replace h := popA_inv h; obtain ⟨v1, a2, rfl, h⟩ := h
  replace h := as_s26_inv h; obtain ⟨p0, rfl, h⟩ := h
  replace h := popN_inv h; obtain ⟨rfl, h⟩ := h
  replace h := popN_inv h; obtain ⟨rfl, h⟩ := h
  replace h := bind_inv h
  obtain ⟨x, hx, h⟩ := h
  exact ⟨there_of Try.func16 (by kernel_rfl) cadastrelaw11_heavy_body, _, _, h, cadastrelaw11_heavy_con k p0 x hx⟩

/-! cadastre/cadastreref1.Put -/
noncomputable def cadastreref1_Put_code : Code := match Try.f51.body with | some c => c | none => .skip
theorem cadastreref1_Put_body : Try.f51.body = some cadastreref1_Put_code := by kernel_rfl
noncomputable def cadastreref1_Put_G {ρ : Type} (k : Nat) : Ans UX ρ := gnil
theorem cadastreref1_Put_gok {ρ : Type} (k : Nat) : GOK Try.prog (cadastreref1_Put_G (ρ := ρ) k) := gok_nil
noncomputable def cadastreref1_Put_l5_s {ρ : Type} (k : Nat) : Run UX ρ := fun s K =>
popS 0 s.env fun v1 e2 =>
asI .u64 v1 fun n0 =>
popS 3 e2 fun v3 e4 =>
asO_li_u8 v3 fun b3 =>
popS 4 e4 fun v5 e6 =>
asI .i64 v5 fun i4 =>
popN e6 <|
popN s.hp <|
cadastreref1_Put_l5 k (fun b3 => K (.exit 0) ⟨[(3, .own (.li_u8 b3))], []⟩) k n0 b3 i4
noncomputable def cadastreref1_Put_l12_s {ρ : Type} (k : Nat) : Run UX ρ := fun s K =>
popS 0 s.env fun v1 e2 =>
asI .u64 v1 fun n0 =>
popS 5 e2 fun v3 e4 =>
asO_li_u8 v3 fun b5 =>
popN e4 <|
popN s.hp <|
cadastreref1_Put_l12 k (fun b5 => K (.exit 2) ⟨[(5, .own (.li_u8 b5))], []⟩) k n0 b5
noncomputable def cadastreref1_Put_cfg {ρ : Type} (k : Nat) : Cfg UX ρ where
  live i := (assoc [(0, [0]), (1, [0]), (2, [0]), (3, [0, 3]), (4, [0, 3]), (5, [0, 3, 4]), (6, [0, 3, 4]), (7, [0, 3, 4]), (8, [0, 3, 4]), (9, [3]), (10, [0]), (11, [0, 5]), (12, [0, 5]), (13, [0, 5]), (14, [0, 5]), (15, [5])] i).getD []
  boxes i := (assoc [(0, []), (1, []), (2, []), (3, []), (4, []), (5, []), (6, []), (7, []), (8, []), (9, []), (10, []), (11, []), (12, []), (13, []), (14, []), (15, [])] i).getD []
  tk i := (assoc [(1000000, [2])] i).getD []
  n := 45
  labelR l := (assoc [] l).getD 0
  loops := assoc [(5, cadastreref1_Put_l5_s k), (12, cadastreref1_Put_l12_s k)]
  labels := assoc []
  joins := assoc []
  xl i e := match e with
    | .nxt => assoc [] i
    | .ret => assoc [] i
    | .exit j => (assoc [(5, [(0, ([3], []))]), (12, [(2, ([5], []))])] i).bind fun l => assoc l j
    | .goto j => (assoc [] i).bind fun l => assoc l j
noncomputable def cadastreref1_Put_L : List Code := selI [5, 12] (loopsOf cadastreref1_Put_code)
noncomputable def cadastreref1_Put_J : List Code := selI [] (joinsOf cadastreref1_Put_code)
noncomputable def cadastreref1_Put_S : List Code := scopesOf cadastreref1_Put_code
theorem cadastreref1_Put_l5_eq0 {ρ : Type} (k : Nat) (K : Ex → St UU → Option ρ) : ∀ (n : Nat) (v : Int × (List Int) × Int), iterK UX (fun s => s.at (cadastreref1_Put_cfg (ρ := ρ) k).live (cadastreref1_Put_cfg (ρ := ρ) k).boxes (some 5)) (exec UX (cadastreref1_Put_cfg k) (cadastreref1_Put_G k) (cadastreref1_Put_L.getD 0 .skip)) n ⟨[(0, .pv (.int .u64 v.1)), (3, .own (.li_u8 v.2.1)), (4, .pv (.int .i64 v.2.2))], []⟩ (nrmK UX (cadastreref1_Put_cfg k) 5 K) = cadastreref1_Put_l5 k (fun b3 => K (.exit 0) ⟨[(3, .own (.li_u8 b3))], []⟩) n v.1 v.2.1 v.2.2 :=
  iter_rec (X := UX) (fun v => ⟨[(0, .pv (.int .u64 v.1)), (3, .own (.li_u8 v.2.1)), (4, .pv (.int .i64 v.2.2))], []⟩) (fun rec v => cadastreref1_Put_l5_b k (fun b3 => K (.exit 0) ⟨[(3, .own (.li_u8 b3))], []⟩) (fun n0 b3 i4 => rec (n0, b3, i4)) v.1 v.2.1 v.2.2) (fun n v => cadastreref1_Put_l5 k (fun b3 => K (.exit 0) ⟨[(3, .own (.li_u8 b3))], []⟩) n v.1 v.2.1 v.2.2) (fun n v => by kernel_rfl) (fun _ => rfl) (fun _ _ => rfl)
theorem cadastreref1_Put_l5_ok0 {ρ : Type} (k : Nat) : IterOK UX (cadastreref1_Put_cfg (ρ := ρ) k) (cadastreref1_Put_G k) (cadastreref1_Put_L.getD 0 .skip) 5 (cadastreref1_Put_l5_s k) := by
  intro s K r h
  obtain ⟨env, hp⟩ := s
  unfold cadastreref1_Put_l5_s at h
  replace h := popS_inv h; obtain ⟨v1, e2, rfl, h⟩ := h
  replace h := asI_inv h; obtain ⟨n0, rfl, h⟩ := h
  replace h := popS_inv h; obtain ⟨v3, e4, rfl, h⟩ := h
  replace h := asO_li_u8_inv h; obtain ⟨b3, rfl, h⟩ := h
  replace h := popS_inv h; obtain ⟨v5, e6, rfl, h⟩ := h
  replace h := asI_inv h; obtain ⟨i4, rfl, h⟩ := h
  replace h := popN_inv h; obtain ⟨rfl, h⟩ := h
  replace h := popN_inv h; obtain ⟨rfl, h⟩ := h
  exact ⟨k, (cadastreref1_Put_l5_eq0 k K k (n0, b3, i4)).trans h⟩
theorem cadastreref1_Put_l12_eq1 {ρ : Type} (k : Nat) (K : Ex → St UU → Option ρ) : ∀ (n : Nat) (v : Int × (List Int)), iterK UX (fun s => s.at (cadastreref1_Put_cfg (ρ := ρ) k).live (cadastreref1_Put_cfg (ρ := ρ) k).boxes (some 12)) (exec UX (cadastreref1_Put_cfg k) (cadastreref1_Put_G k) (cadastreref1_Put_L.getD 1 .skip)) n ⟨[(0, .pv (.int .u64 v.1)), (5, .own (.li_u8 v.2))], []⟩ (nrmK UX (cadastreref1_Put_cfg k) 12 K) = cadastreref1_Put_l12 k (fun b5 => K (.exit 2) ⟨[(5, .own (.li_u8 b5))], []⟩) n v.1 v.2 :=
  iter_rec (X := UX) (fun v => ⟨[(0, .pv (.int .u64 v.1)), (5, .own (.li_u8 v.2))], []⟩) (fun rec v => cadastreref1_Put_l12_b k (fun b5 => K (.exit 2) ⟨[(5, .own (.li_u8 b5))], []⟩) (fun n0 b5 => rec (n0, b5)) v.1 v.2) (fun n v => cadastreref1_Put_l12 k (fun b5 => K (.exit 2) ⟨[(5, .own (.li_u8 b5))], []⟩) n v.1 v.2) (fun n v => by kernel_rfl) (fun _ => rfl) (fun _ _ => rfl)
theorem cadastreref1_Put_l12_ok1 {ρ : Type} (k : Nat) : IterOK UX (cadastreref1_Put_cfg (ρ := ρ) k) (cadastreref1_Put_G k) (cadastreref1_Put_L.getD 1 .skip) 12 (cadastreref1_Put_l12_s k) := by
  intro s K r h
  obtain ⟨env, hp⟩ := s
  unfold cadastreref1_Put_l12_s at h
  replace h := popS_inv h; obtain ⟨v1, e2, rfl, h⟩ := h
  replace h := asI_inv h; obtain ⟨n0, rfl, h⟩ := h
  replace h := popS_inv h; obtain ⟨v3, e4, rfl, h⟩ := h
  replace h := asO_li_u8_inv h; obtain ⟨b5, rfl, h⟩ := h
  replace h := popN_inv h; obtain ⟨rfl, h⟩ := h
  replace h := popN_inv h; obtain ⟨rfl, h⟩ := h
  exact ⟨k, (cadastreref1_Put_l12_eq1 k K k (n0, b5)).trans h⟩
theorem cadastreref1_Put_cok {ρ : Type} (k : Nat) : COK (cadastreref1_Put_cfg (ρ := ρ) k) (cadastreref1_Put_G k) cadastreref1_Put_code :=
  cok_of (tl := [(5, cadastreref1_Put_l5_s k), (12, cadastreref1_Put_l12_s k)]) (tj := []) (tb := []) rfl rfl rfl (all_nth 2 (by kernel_rfl) ⟨iter_case (by kernel_rfl) rfl (cadastreref1_Put_l12_ok1 k), iter_case (by kernel_rfl) rfl (cadastreref1_Put_l5_ok0 k), trivial⟩) (nil_all (by kernel_rfl)) (fun p hp => by cases hp)
noncomputable def cadastreref1_Put_enc (r : (List Int)) : AV UU := .own (.li_u8 r)
noncomputable def cadastreref1_Put_dec (v : AV UU) (_ : List (List (AV UU))) : Option (List Int) :=
asO_li_u8 v fun r =>
some r
theorem cadastreref1_Put_dec_enc (v : AV UU) (b : List (List (AV UU))) (r : (List Int)) (h : cadastreref1_Put_dec v b = some r) : v = cadastreref1_Put_enc r := by
  unfold cadastreref1_Put_dec at h
  replace h := asO_li_u8_inv h; obtain ⟨r, rfl, h⟩ := h
  cases h
  rfl
theorem cadastreref1_Put_eq (k : Nat) (n0 : Int) : bodyK UX (cadastreref1_Put_cfg k) (cadastreref1_Put_G k) Try.f51 [.pv (.int .u64 n0)] [] cadastreref1_Put_dec = cadastreref1_Put k n0 := by kernel_rfl
theorem cadastreref1_Put_con (k : Nat) (n0 : Int) (r : (List Int)) (h : cadastreref1_Put k n0 = some r) : Con (X := UX) Try.prog 51 [.pv (.int .u64 n0)] [] (cadastreref1_Put_enc r) [] :=
  con_of_body xok tok Try.func51 cadastreref1_Put_body (cadastreref1_Put_gok k) rfl (cadastreref1_Put_cok k) (of_decide_eq_true (by kernel_rfl)) cadastreref1_Put_dec_enc ((cadastreref1_Put_eq k n0).trans h)
noncomputable def cadastreref1_Put_an {ρ : Type} (k : Nat) : An UX ρ := fun args bx K =>
popA args fun v1 a2 =>
asI .u64 v1 fun n0 =>
popN a2 <|
popN bx <|
(cadastreref1_Put k n0).bind fun r => K (cadastreref1_Put_enc r) []
theorem cadastreref1_Put_ok {ρ : Type} (k : Nat) : AnsOK Try.prog 51 (cadastreref1_Put_an (ρ := ρ) k) := by
  intro args bx K r h
  unfold cadastreref1_Put_an at h
  replace h := popA_inv h; obtain ⟨v1, a2, rfl, h⟩ := h
  replace h := asI_inv h; obtain ⟨n0, rfl, h⟩ := h
  replace h := popN_inv h; obtain ⟨rfl, h⟩ := h
  replace h := popN_inv h; obtain ⟨rfl, h⟩ := h
  replace h := bind_inv h
  obtain ⟨x, hx, h⟩ := h
  exact ⟨there_of Try.func51 (by kernel_rfl) cadastreref1_Put_body, _, _, h, cadastreref1_Put_con k n0 x hx⟩

/-! cadastre/cadastreref1.same -/
noncomputable def cadastreref1_same_code : Code := match Try.f76.body with | some c => c | none => .skip
theorem cadastreref1_same_body : Try.f76.body = some cadastreref1_same_code := by kernel_rfl
noncomputable def cadastreref1_same_G {ρ : Type} (k : Nat) : Ans UX ρ := gnil
theorem cadastreref1_same_gok {ρ : Type} (k : Nat) : GOK Try.prog (cadastreref1_same_G (ρ := ρ) k) := gok_nil
noncomputable def cadastreref1_same_l4_s {ρ : Type} (k : Nat) : Run UX ρ := fun s K =>
popS 0 s.env fun v1 e2 =>
as_li_u8 v1 fun a0 =>
popS 1 e2 fun v3 e4 =>
as_li_u8 v3 fun b1 =>
popS 5 e4 fun v5 e6 =>
asI .i64 v5 fun i5 =>
popN e6 <|
popN s.hp <|
cadastreref1_same_l4 k (fun t4 => K .ret ⟨[(4, .pv (.bool t4))], []⟩) (K (.exit 0) ⟨[], []⟩) k a0 b1 i5
noncomputable def cadastreref1_same_cfg {ρ : Type} (k : Nat) : Cfg UX ρ where
  live i := (assoc [(0, [0, 1]), (1, [0, 1]), (2, []), (3, [0, 1]), (4, [0, 1, 5]), (5, [0, 1, 5]), (6, [0, 1, 5]), (7, []), (8, [])] i).getD []
  boxes i := (assoc [(0, []), (1, []), (2, []), (3, []), (4, []), (5, []), (6, []), (7, []), (8, [])] i).getD []
  tk i := (assoc [] i).getD []
  n := 26
  labelR l := (assoc [] l).getD 0
  loops := assoc [(4, cadastreref1_same_l4_s k)]
  labels := assoc []
  joins := assoc []
  xl i e := match e with
    | .nxt => assoc [] i
    | .ret => assoc [(4, ([4], []))] i
    | .exit j => (assoc [(4, [(0, ([], []))])] i).bind fun l => assoc l j
    | .goto j => (assoc [] i).bind fun l => assoc l j
noncomputable def cadastreref1_same_L : List Code := selI [4] (loopsOf cadastreref1_same_code)
noncomputable def cadastreref1_same_J : List Code := selI [] (joinsOf cadastreref1_same_code)
noncomputable def cadastreref1_same_S : List Code := scopesOf cadastreref1_same_code
theorem cadastreref1_same_l4_eq0 {ρ : Type} (k : Nat) (K : Ex → St UU → Option ρ) : ∀ (n : Nat) (v : (List Int) × (List Int) × Int), iterK UX (fun s => s.at (cadastreref1_same_cfg (ρ := ρ) k).live (cadastreref1_same_cfg (ρ := ρ) k).boxes (some 4)) (exec UX (cadastreref1_same_cfg k) (cadastreref1_same_G k) (cadastreref1_same_L.getD 0 .skip)) n ⟨[(0, .pv (.typ (.li_u8 v.1))), (1, .pv (.typ (.li_u8 v.2.1))), (5, .pv (.int .i64 v.2.2))], []⟩ (nrmK UX (cadastreref1_same_cfg k) 4 K) = cadastreref1_same_l4 k (fun t4 => K .ret ⟨[(4, .pv (.bool t4))], []⟩) (K (.exit 0) ⟨[], []⟩) n v.1 v.2.1 v.2.2 :=
  iter_rec (X := UX) (fun v => ⟨[(0, .pv (.typ (.li_u8 v.1))), (1, .pv (.typ (.li_u8 v.2.1))), (5, .pv (.int .i64 v.2.2))], []⟩) (fun rec v => cadastreref1_same_l4_b k (fun t4 => K .ret ⟨[(4, .pv (.bool t4))], []⟩) (K (.exit 0) ⟨[], []⟩) (fun a0 b1 i5 => rec (a0, b1, i5)) v.1 v.2.1 v.2.2) (fun n v => cadastreref1_same_l4 k (fun t4 => K .ret ⟨[(4, .pv (.bool t4))], []⟩) (K (.exit 0) ⟨[], []⟩) n v.1 v.2.1 v.2.2) (fun n v => by kernel_rfl) (fun _ => rfl) (fun _ _ => rfl)
theorem cadastreref1_same_l4_ok0 {ρ : Type} (k : Nat) : IterOK UX (cadastreref1_same_cfg (ρ := ρ) k) (cadastreref1_same_G k) (cadastreref1_same_L.getD 0 .skip) 4 (cadastreref1_same_l4_s k) := by
  intro s K r h
  obtain ⟨env, hp⟩ := s
  unfold cadastreref1_same_l4_s at h
  replace h := popS_inv h; obtain ⟨v1, e2, rfl, h⟩ := h
  replace h := as_li_u8_inv h; obtain ⟨a0, rfl, h⟩ := h
  replace h := popS_inv h; obtain ⟨v3, e4, rfl, h⟩ := h
  replace h := as_li_u8_inv h; obtain ⟨b1, rfl, h⟩ := h
  replace h := popS_inv h; obtain ⟨v5, e6, rfl, h⟩ := h
  replace h := asI_inv h; obtain ⟨i5, rfl, h⟩ := h
  replace h := popN_inv h; obtain ⟨rfl, h⟩ := h
  replace h := popN_inv h; obtain ⟨rfl, h⟩ := h
  exact ⟨k, (cadastreref1_same_l4_eq0 k K k (a0, b1, i5)).trans h⟩
theorem cadastreref1_same_cok {ρ : Type} (k : Nat) : COK (cadastreref1_same_cfg (ρ := ρ) k) (cadastreref1_same_G k) cadastreref1_same_code :=
  cok_of (tl := [(4, cadastreref1_same_l4_s k)]) (tj := []) (tb := []) rfl rfl rfl (all_nth 1 (by kernel_rfl) ⟨iter_case (by kernel_rfl) rfl (cadastreref1_same_l4_ok0 k), trivial⟩) (nil_all (by kernel_rfl)) (fun p hp => by cases hp)
noncomputable def cadastreref1_same_enc (r : Bool) : AV UU := .pv (.bool r)
noncomputable def cadastreref1_same_dec (v : AV UU) (_ : List (List (AV UU))) : Option Bool :=
asB v fun r0 =>
some r0
theorem cadastreref1_same_dec_enc (v : AV UU) (b : List (List (AV UU))) (r : Bool) (h : cadastreref1_same_dec v b = some r) : v = cadastreref1_same_enc r := by
  unfold cadastreref1_same_dec at h
  replace h := asB_inv h; obtain ⟨r0, rfl, h⟩ := h
  cases h
  rfl
theorem cadastreref1_same_eq (k : Nat) (a0 : List Int) (b1 : List Int) : bodyK UX (cadastreref1_same_cfg k) (cadastreref1_same_G k) Try.f76 [.pv (.typ (.li_u8 a0)), .pv (.typ (.li_u8 b1))] [] cadastreref1_same_dec = cadastreref1_same k a0 b1 := by kernel_rfl
theorem cadastreref1_same_con (k : Nat) (a0 : List Int) (b1 : List Int) (r : Bool) (h : cadastreref1_same k a0 b1 = some r) : Con (X := UX) Try.prog 76 [.pv (.typ (.li_u8 a0)), .pv (.typ (.li_u8 b1))] [] (cadastreref1_same_enc r) [] :=
  con_of_body xok tok Try.func76 cadastreref1_same_body (cadastreref1_same_gok k) rfl (cadastreref1_same_cok k) (of_decide_eq_true (by kernel_rfl)) cadastreref1_same_dec_enc ((cadastreref1_same_eq k a0 b1).trans h)
noncomputable def cadastreref1_same_an {ρ : Type} (k : Nat) : An UX ρ := fun args bx K =>
popA args fun v1 a2 =>
as_li_u8 v1 fun a0 =>
popA a2 fun v3 a4 =>
as_li_u8 v3 fun b1 =>
popN a4 <|
popN bx <|
(cadastreref1_same k a0 b1).bind fun r => K (cadastreref1_same_enc r) []
theorem cadastreref1_same_ok {ρ : Type} (k : Nat) : AnsOK Try.prog 76 (cadastreref1_same_an (ρ := ρ) k) := by
  intro args bx K r h
  unfold cadastreref1_same_an at h
  replace h := popA_inv h; obtain ⟨v1, a2, rfl, h⟩ := h
  replace h := as_li_u8_inv h; obtain ⟨a0, rfl, h⟩ := h
  replace h := popA_inv h; obtain ⟨v3, a4, rfl, h⟩ := h
  replace h := as_li_u8_inv h; obtain ⟨b1, rfl, h⟩ := h
  replace h := popN_inv h; obtain ⟨rfl, h⟩ := h
  replace h := popN_inv h; obtain ⟨rfl, h⟩ := h
  replace h := bind_inv h
  obtain ⟨x, hx, h⟩ := h
  exact ⟨there_of Try.func76 (by kernel_rfl) cadastreref1_same_body, _, _, h, cadastreref1_same_con k a0 b1 x hx⟩

/-! cadastre/cadastreref1.Get -/
noncomputable def cadastreref1_Get_code : Code := match Try.f58.body with | some c => c | none => .skip
theorem cadastreref1_Get_body : Try.f58.body = some cadastreref1_Get_code := by kernel_rfl
noncomputable def cadastreref1_Get_G {ρ : Type} (k : Nat) : Ans UX ρ := gk 51 (cadastreref1_Put_an k) (gk 76 (cadastreref1_same_an k) (gnil))
theorem cadastreref1_Get_gok {ρ : Type} (k : Nat) : GOK Try.prog (cadastreref1_Get_G (ρ := ρ) k) := gok_cons (cadastreref1_Put_ok k) (gok_cons (cadastreref1_same_ok k) (gok_nil))
noncomputable def cadastreref1_Get_j9_s {ρ : Type} (k : Nat) : Run UX ρ := fun s K =>
popS 0 s.env fun v1 e2 =>
as_li_u8 v1 fun b0 =>
popS 4 e2 fun v3 e4 =>
asI .u64 v3 fun n4 =>
popS 5 e4 fun v5 e6 =>
asI .i64 v5 fun i5 =>
popN e6 <|
popN s.hp <|
cadastreref1_Get_j9 k (fun t2 t3 => K .ret ⟨[(2, .pv (.int .u64 t2)), (3, .pv (.int .i64 t3))], []⟩) b0 n4 i5
noncomputable def cadastreref1_Get_j8_s {ρ : Type} (k : Nat) : Run UX ρ := fun s K =>
popS 0 s.env fun v1 e2 =>
as_li_u8 v1 fun b0 =>
popS 4 e2 fun v3 e4 =>
asI .u64 v3 fun n4 =>
popS 5 e4 fun v5 e6 =>
asI .i64 v5 fun i5 =>
popN e6 <|
popN s.hp <|
cadastreref1_Get_j8 k (fun t2 t3 => K .ret ⟨[(2, .pv (.int .u64 t2)), (3, .pv (.int .i64 t3))], []⟩) (fun b0 n4 i5 => K .nxt ⟨[(0, .pv (.typ (.li_u8 b0))), (4, .pv (.int .u64 n4)), (5, .pv (.int .i64 i5))], []⟩) b0 n4 i5
noncomputable def cadastreref1_Get_j5_s {ρ : Type} (k : Nat) : Run UX ρ := fun s K =>
popS 0 s.env fun v1 e2 =>
as_li_u8 v1 fun b0 =>
popS 4 e2 fun v3 e4 =>
asI .u64 v3 fun n4 =>
popS 5 e4 fun v5 e6 =>
asI .i64 v5 fun i5 =>
popN e6 <|
popN s.hp <|
cadastreref1_Get_j5 k (fun t2 t3 => K .ret ⟨[(2, .pv (.int .u64 t2)), (3, .pv (.int .i64 t3))], []⟩) (fun b0 n4 i5 => K .nxt ⟨[(0, .pv (.typ (.li_u8 b0))), (4, .pv (.int .u64 n4)), (5, .pv (.int .i64 i5))], []⟩) b0 n4 i5
noncomputable def cadastreref1_Get_l3_s {ρ : Type} (k : Nat) : Run UX ρ := fun s K =>
popS 0 s.env fun v1 e2 =>
as_li_u8 v1 fun b0 =>
popS 4 e2 fun v3 e4 =>
asI .u64 v3 fun n4 =>
popS 5 e4 fun v5 e6 =>
asI .i64 v5 fun i5 =>
popN e6 <|
popN s.hp <|
cadastreref1_Get_l3 k (fun t2 t3 => K .ret ⟨[(2, .pv (.int .u64 t2)), (3, .pv (.int .i64 t3))], []⟩) (K (.exit 0) ⟨[], []⟩) k b0 n4 i5
noncomputable def cadastreref1_Get_cfg {ρ : Type} (k : Nat) : Cfg UX ρ where
  live i := (assoc [(0, [0]), (1, [0]), (2, [0, 4]), (3, [0, 4, 5]), (4, [0, 4, 5]), (5, [0, 4, 5]), (6, [0, 4, 5]), (7, [0, 4, 5]), (8, [0, 4, 5]), (9, [0, 4, 5]), (10, [4, 5]), (11, []), (12, [])] i).getD []
  boxes i := (assoc [(0, []), (1, []), (2, []), (3, []), (4, []), (5, []), (6, []), (7, []), (8, []), (9, []), (10, []), (11, []), (12, [])] i).getD []
  tk i := (assoc [] i).getD []
  n := 54
  labelR l := (assoc [] l).getD 0
  loops := assoc [(3, cadastreref1_Get_l3_s k)]
  labels := assoc []
  joins := assoc [(9, cadastreref1_Get_j9_s k), (8, cadastreref1_Get_j8_s k), (5, cadastreref1_Get_j5_s k)]
  xl i e := match e with
    | .nxt => assoc [(8, ([0, 4, 5], [])), (5, ([0, 4, 5], []))] i
    | .ret => assoc [(9, ([2, 3], [])), (8, ([2, 3], [])), (5, ([2, 3], [])), (3, ([2, 3], []))] i
    | .exit j => (assoc [(3, [(0, ([], []))])] i).bind fun l => assoc l j
    | .goto j => (assoc [] i).bind fun l => assoc l j
noncomputable def cadastreref1_Get_L : List Code := selI [3] (loopsOf cadastreref1_Get_code)
noncomputable def cadastreref1_Get_J : List Code := selI [9, 8, 5] (joinsOf cadastreref1_Get_code)
noncomputable def cadastreref1_Get_S : List Code := scopesOf cadastreref1_Get_code
theorem cadastreref1_Get_l3_eq0 {ρ : Type} (k : Nat) (K : Ex → St UU → Option ρ) : ∀ (n : Nat) (v : (List Int) × Int × Int), iterK UX (fun s => s.at (cadastreref1_Get_cfg (ρ := ρ) k).live (cadastreref1_Get_cfg (ρ := ρ) k).boxes (some 3)) (exec UX (cadastreref1_Get_cfg k) (cadastreref1_Get_G k) (cadastreref1_Get_L.getD 0 .skip)) n ⟨[(0, .pv (.typ (.li_u8 v.1))), (4, .pv (.int .u64 v.2.1)), (5, .pv (.int .i64 v.2.2))], []⟩ (nrmK UX (cadastreref1_Get_cfg k) 3 K) = cadastreref1_Get_l3 k (fun t2 t3 => K .ret ⟨[(2, .pv (.int .u64 t2)), (3, .pv (.int .i64 t3))], []⟩) (K (.exit 0) ⟨[], []⟩) n v.1 v.2.1 v.2.2 :=
  iter_rec (X := UX) (fun v => ⟨[(0, .pv (.typ (.li_u8 v.1))), (4, .pv (.int .u64 v.2.1)), (5, .pv (.int .i64 v.2.2))], []⟩) (fun rec v => cadastreref1_Get_l3_b k (fun t2 t3 => K .ret ⟨[(2, .pv (.int .u64 t2)), (3, .pv (.int .i64 t3))], []⟩) (K (.exit 0) ⟨[], []⟩) (fun b0 n4 i5 => rec (b0, n4, i5)) v.1 v.2.1 v.2.2) (fun n v => cadastreref1_Get_l3 k (fun t2 t3 => K .ret ⟨[(2, .pv (.int .u64 t2)), (3, .pv (.int .i64 t3))], []⟩) (K (.exit 0) ⟨[], []⟩) n v.1 v.2.1 v.2.2) (fun n v => by kernel_rfl) (fun _ => rfl) (fun _ _ => rfl)
theorem cadastreref1_Get_l3_ok0 {ρ : Type} (k : Nat) : IterOK UX (cadastreref1_Get_cfg (ρ := ρ) k) (cadastreref1_Get_G k) (cadastreref1_Get_L.getD 0 .skip) 3 (cadastreref1_Get_l3_s k) := by
  intro s K r h
  obtain ⟨env, hp⟩ := s
  unfold cadastreref1_Get_l3_s at h
  replace h := popS_inv h; obtain ⟨v1, e2, rfl, h⟩ := h
  replace h := as_li_u8_inv h; obtain ⟨b0, rfl, h⟩ := h
  replace h := popS_inv h; obtain ⟨v3, e4, rfl, h⟩ := h
  replace h := asI_inv h; obtain ⟨n4, rfl, h⟩ := h
  replace h := popS_inv h; obtain ⟨v5, e6, rfl, h⟩ := h
  replace h := asI_inv h; obtain ⟨i5, rfl, h⟩ := h
  replace h := popN_inv h; obtain ⟨rfl, h⟩ := h
  replace h := popN_inv h; obtain ⟨rfl, h⟩ := h
  exact ⟨k, (cadastreref1_Get_l3_eq0 k K k (b0, n4, i5)).trans h⟩
theorem cadastreref1_Get_j5_eq0 {ρ : Type} (k : Nat) (K : Ex → St UU → Option ρ) (b0 : List Int) (n4 : Int) (i5 : Int) : exec UX (cadastreref1_Get_cfg k) (cadastreref1_Get_G k) (cadastreref1_Get_J.getD 0 .skip) ⟨[(0, .pv (.typ (.li_u8 b0))), (4, .pv (.int .u64 n4)), (5, .pv (.int .i64 i5))], []⟩ (nrmK UX (cadastreref1_Get_cfg k) 5 K) = cadastreref1_Get_j5 k (fun t2 t3 => K .ret ⟨[(2, .pv (.int .u64 t2)), (3, .pv (.int .i64 t3))], []⟩) (fun b0 n4 i5 => K .nxt ⟨[(0, .pv (.typ (.li_u8 b0))), (4, .pv (.int .u64 n4)), (5, .pv (.int .i64 i5))], []⟩) b0 n4 i5 := by kernel_rfl
theorem cadastreref1_Get_j5_ok0 {ρ : Type} (k : Nat) : JoinOK UX (cadastreref1_Get_cfg (ρ := ρ) k) (cadastreref1_Get_G k) (cadastreref1_Get_J.getD 0 .skip) 5 (cadastreref1_Get_j5_s k) := by
  intro s K r h
  obtain ⟨env, hp⟩ := s
  unfold cadastreref1_Get_j5_s at h
  replace h := popS_inv h; obtain ⟨v1, e2, rfl, h⟩ := h
  replace h := as_li_u8_inv h; obtain ⟨b0, rfl, h⟩ := h
  replace h := popS_inv h; obtain ⟨v3, e4, rfl, h⟩ := h
  replace h := asI_inv h; obtain ⟨n4, rfl, h⟩ := h
  replace h := popS_inv h; obtain ⟨v5, e6, rfl, h⟩ := h
  replace h := asI_inv h; obtain ⟨i5, rfl, h⟩ := h
  replace h := popN_inv h; obtain ⟨rfl, h⟩ := h
  replace h := popN_inv h; obtain ⟨rfl, h⟩ := h
  exact (cadastreref1_Get_j5_eq0 k K b0 n4 i5).trans h
theorem cadastreref1_Get_j8_eq1 {ρ : Type} (k : Nat) (K : Ex → St UU → Option ρ) (b0 : List Int) (n4 : Int) (i5 : Int) : exec UX (cadastreref1_Get_cfg k) (cadastreref1_Get_G k) (cadastreref1_Get_J.getD 1 .skip) ⟨[(0, .pv (.typ (.li_u8 b0))), (4, .pv (.int .u64 n4)), (5, .pv (.int .i64 i5))], []⟩ (nrmK UX (cadastreref1_Get_cfg k) 8 K) = cadastreref1_Get_j8 k (fun t2 t3 => K .ret ⟨[(2, .pv (.int .u64 t2)), (3, .pv (.int .i64 t3))], []⟩) (fun b0 n4 i5 => K .nxt ⟨[(0, .pv (.typ (.li_u8 b0))), (4, .pv (.int .u64 n4)), (5, .pv (.int .i64 i5))], []⟩) b0 n4 i5 := by kernel_rfl
theorem cadastreref1_Get_j8_ok1 {ρ : Type} (k : Nat) : JoinOK UX (cadastreref1_Get_cfg (ρ := ρ) k) (cadastreref1_Get_G k) (cadastreref1_Get_J.getD 1 .skip) 8 (cadastreref1_Get_j8_s k) := by
  intro s K r h
  obtain ⟨env, hp⟩ := s
  unfold cadastreref1_Get_j8_s at h
  replace h := popS_inv h; obtain ⟨v1, e2, rfl, h⟩ := h
  replace h := as_li_u8_inv h; obtain ⟨b0, rfl, h⟩ := h
  replace h := popS_inv h; obtain ⟨v3, e4, rfl, h⟩ := h
  replace h := asI_inv h; obtain ⟨n4, rfl, h⟩ := h
  replace h := popS_inv h; obtain ⟨v5, e6, rfl, h⟩ := h
  replace h := asI_inv h; obtain ⟨i5, rfl, h⟩ := h
  replace h := popN_inv h; obtain ⟨rfl, h⟩ := h
  replace h := popN_inv h; obtain ⟨rfl, h⟩ := h
  exact (cadastreref1_Get_j8_eq1 k K b0 n4 i5).trans h
theorem cadastreref1_Get_j9_eq2 {ρ : Type} (k : Nat) (K : Ex → St UU → Option ρ) (b0 : List Int) (n4 : Int) (i5 : Int) : exec UX (cadastreref1_Get_cfg k) (cadastreref1_Get_G k) (cadastreref1_Get_J.getD 2 .skip) ⟨[(0, .pv (.typ (.li_u8 b0))), (4, .pv (.int .u64 n4)), (5, .pv (.int .i64 i5))], []⟩ (nrmK UX (cadastreref1_Get_cfg k) 9 K) = cadastreref1_Get_j9 k (fun t2 t3 => K .ret ⟨[(2, .pv (.int .u64 t2)), (3, .pv (.int .i64 t3))], []⟩) b0 n4 i5 := by kernel_rfl
theorem cadastreref1_Get_j9_ok2 {ρ : Type} (k : Nat) : JoinOK UX (cadastreref1_Get_cfg (ρ := ρ) k) (cadastreref1_Get_G k) (cadastreref1_Get_J.getD 2 .skip) 9 (cadastreref1_Get_j9_s k) := by
  intro s K r h
  obtain ⟨env, hp⟩ := s
  unfold cadastreref1_Get_j9_s at h
  replace h := popS_inv h; obtain ⟨v1, e2, rfl, h⟩ := h
  replace h := as_li_u8_inv h; obtain ⟨b0, rfl, h⟩ := h
  replace h := popS_inv h; obtain ⟨v3, e4, rfl, h⟩ := h
  replace h := asI_inv h; obtain ⟨n4, rfl, h⟩ := h
  replace h := popS_inv h; obtain ⟨v5, e6, rfl, h⟩ := h
  replace h := asI_inv h; obtain ⟨i5, rfl, h⟩ := h
  replace h := popN_inv h; obtain ⟨rfl, h⟩ := h
  replace h := popN_inv h; obtain ⟨rfl, h⟩ := h
  exact (cadastreref1_Get_j9_eq2 k K b0 n4 i5).trans h
theorem cadastreref1_Get_cok {ρ : Type} (k : Nat) : COK (cadastreref1_Get_cfg (ρ := ρ) k) (cadastreref1_Get_G k) cadastreref1_Get_code :=
  cok_of (tl := [(3, cadastreref1_Get_l3_s k)]) (tj := [(9, cadastreref1_Get_j9_s k), (8, cadastreref1_Get_j8_s k), (5, cadastreref1_Get_j5_s k)]) (tb := []) rfl rfl rfl (all_nth 1 (by kernel_rfl) ⟨iter_case (by kernel_rfl) rfl (cadastreref1_Get_l3_ok0 k), trivial⟩) (all_nth 3 (by kernel_rfl) ⟨join_case (by kernel_rfl) rfl (cadastreref1_Get_j9_ok2 k), join_case (by kernel_rfl) rfl (cadastreref1_Get_j8_ok1 k), join_case (by kernel_rfl) rfl (cadastreref1_Get_j5_ok0 k), trivial⟩) (fun p hp => by cases hp)
noncomputable def cadastreref1_Get_enc (r : Int × Int) : AV UU := .pv (.tup [.int .u64 r.1, .int .i64 r.2])
noncomputable def cadastreref1_Get_dec (v : AV UU) (_ : List (List (AV UU))) : Option (Int × Int) :=
asT v fun q1 =>
popA q1 fun p2 q3 =>
asI .u64 (.pv p2) fun r0 =>
popA q3 fun p4 q5 =>
asI .i64 (.pv p4) fun r1 =>
popN q5 <|
some (r0, r1)
theorem cadastreref1_Get_dec_enc (v : AV UU) (b : List (List (AV UU))) (r : Int × Int) (h : cadastreref1_Get_dec v b = some r) : v = cadastreref1_Get_enc r := by
  unfold cadastreref1_Get_dec at h
  replace h := asT_inv h; obtain ⟨q1, rfl, h⟩ := h
  replace h := popA_inv h; obtain ⟨p2, q3, rfl, h⟩ := h
  replace h := asI_inv h; obtain ⟨r0, e, h⟩ := h; cases e
  replace h := popA_inv h; obtain ⟨p4, q5, rfl, h⟩ := h
  replace h := asI_inv h; obtain ⟨r1, e, h⟩ := h; cases e
  replace h := popN_inv h; obtain ⟨rfl, h⟩ := h
  cases h
  rfl
theorem cadastreref1_Get_eq (k : Nat) (b0 : List Int) : bodyK UX (cadastreref1_Get_cfg k) (cadastreref1_Get_G k) Try.f58 [.pv (.typ (.li_u8 b0))] [] cadastreref1_Get_dec = cadastreref1_Get k b0 := by kernel_rfl
theorem cadastreref1_Get_con (k : Nat) (b0 : List Int) (r : Int × Int) (h : cadastreref1_Get k b0 = some r) : Con (X := UX) Try.prog 58 [.pv (.typ (.li_u8 b0))] [] (cadastreref1_Get_enc r) [] :=
  con_of_body xok tok Try.func58 cadastreref1_Get_body (cadastreref1_Get_gok k) rfl (cadastreref1_Get_cok k) (of_decide_eq_true (by kernel_rfl)) cadastreref1_Get_dec_enc ((cadastreref1_Get_eq k b0).trans h)
noncomputable def cadastreref1_Get_an {ρ : Type} (k : Nat) : An UX ρ := fun args bx K =>
popA args fun v1 a2 =>
as_li_u8 v1 fun b0 =>
popN a2 <|
popN bx <|
(cadastreref1_Get k b0).bind fun r => K (cadastreref1_Get_enc r) []
theorem cadastreref1_Get_ok {ρ : Type} (k : Nat) : AnsOK Try.prog 58 (cadastreref1_Get_an (ρ := ρ) k) := by
  intro args bx K r h
  unfold cadastreref1_Get_an at h
  replace h := popA_inv h; obtain ⟨v1, a2, rfl, h⟩ := h
  replace h := as_li_u8_inv h; obtain ⟨b0, rfl, h⟩ := h
  replace h := popN_inv h; obtain ⟨rfl, h⟩ := h
  replace h := popN_inv h; obtain ⟨rfl, h⟩ := h
  replace h := bind_inv h
  obtain ⟨x, hx, h⟩ := h
  exact ⟨there_of Try.func58 (by kernel_rfl) cadastreref1_Get_body, _, _, h, cadastreref1_Get_con k b0 x hx⟩

/-! cadastre/cadastreref0.CopyBytes -/
noncomputable def cadastreref0_CopyBytes_code : Code := match Try.f33.body with | some c => c | none => .skip
theorem cadastreref0_CopyBytes_body : Try.f33.body = some cadastreref0_CopyBytes_code := by kernel_rfl
noncomputable def cadastreref0_CopyBytes_G {ρ : Type} (k : Nat) : Ans UX ρ := gnil
theorem cadastreref0_CopyBytes_gok {ρ : Type} (k : Nat) : GOK Try.prog (cadastreref0_CopyBytes_G (ρ := ρ) k) := gok_nil
noncomputable def cadastreref0_CopyBytes_l3_s {ρ : Type} (k : Nat) : Run UX ρ := fun s K =>
popS 0 s.env fun v1 e2 =>
as_li_u8 v1 fun l0 =>
popS 3 e2 fun v3 e4 =>
asO_li_u8 v3 fun m3 =>
popS 4 e4 fun v5 e6 =>
asI .i64 v5 fun i4 =>
popN e6 <|
popN s.hp <|
cadastreref0_CopyBytes_l3 k (fun m3 => K (.exit 0) ⟨[(3, .own (.li_u8 m3))], []⟩) k l0 m3 i4
noncomputable def cadastreref0_CopyBytes_cfg {ρ : Type} (k : Nat) : Cfg UX ρ where
  live i := (assoc [(0, [0]), (1, [0]), (2, [0, 3]), (3, [0, 3, 4]), (4, [0, 3, 4]), (5, [0, 3, 4]), (6, [3])] i).getD []
  boxes i := (assoc [(0, []), (1, []), (2, []), (3, []), (4, []), (5, []), (6, [])] i).getD []
  tk i := (assoc [(1000000, [2, 3])] i).getD []
  n := 19
  labelR l := (assoc [] l).getD 0
  loops := assoc [(3, cadastreref0_CopyBytes_l3_s k)]
  labels := assoc []
  joins := assoc []
  xl i e := match e with
    | .nxt => assoc [] i
    | .ret => assoc [] i
    | .exit j => (assoc [(3, [(0, ([3], []))])] i).bind fun l => assoc l j
    | .goto j => (assoc [] i).bind fun l => assoc l j
noncomputable def cadastreref0_CopyBytes_L : List Code := selI [3] (loopsOf cadastreref0_CopyBytes_code)
noncomputable def cadastreref0_CopyBytes_J : List Code := selI [] (joinsOf cadastreref0_CopyBytes_code)
noncomputable def cadastreref0_CopyBytes_S : List Code := scopesOf cadastreref0_CopyBytes_code
theorem cadastreref0_CopyBytes_l3_eq0 {ρ : Type} (k : Nat) (K : Ex → St UU → Option ρ) : ∀ (n : Nat) (v : (List Int) × (List Int) × Int), iterK UX (fun s => s.at (cadastreref0_CopyBytes_cfg (ρ := ρ) k).live (cadastreref0_CopyBytes_cfg (ρ := ρ) k).boxes (some 3)) (exec UX (cadastreref0_CopyBytes_cfg k) (cadastreref0_CopyBytes_G k) (cadastreref0_CopyBytes_L.getD 0 .skip)) n ⟨[(0, .pv (.typ (.li_u8 v.1))), (3, .own (.li_u8 v.2.1)), (4, .pv (.int .i64 v.2.2))], []⟩ (nrmK UX (cadastreref0_CopyBytes_cfg k) 3 K) = cadastreref0_CopyBytes_l3 k (fun m3 => K (.exit 0) ⟨[(3, .own (.li_u8 m3))], []⟩) n v.1 v.2.1 v.2.2 :=
  iter_rec (X := UX) (fun v => ⟨[(0, .pv (.typ (.li_u8 v.1))), (3, .own (.li_u8 v.2.1)), (4, .pv (.int .i64 v.2.2))], []⟩) (fun rec v => cadastreref0_CopyBytes_l3_b k (fun m3 => K (.exit 0) ⟨[(3, .own (.li_u8 m3))], []⟩) (fun l0 m3 i4 => rec (l0, m3, i4)) v.1 v.2.1 v.2.2) (fun n v => cadastreref0_CopyBytes_l3 k (fun m3 => K (.exit 0) ⟨[(3, .own (.li_u8 m3))], []⟩) n v.1 v.2.1 v.2.2) (fun n v => by kernel_rfl) (fun _ => rfl) (fun _ _ => rfl)
theorem cadastreref0_CopyBytes_l3_ok0 {ρ : Type} (k : Nat) : IterOK UX (cadastreref0_CopyBytes_cfg (ρ := ρ) k) (cadastreref0_CopyBytes_G k) (cadastreref0_CopyBytes_L.getD 0 .skip) 3 (cadastreref0_CopyBytes_l3_s k) := by
  intro s K r h
  obtain ⟨env, hp⟩ := s
  unfold cadastreref0_CopyBytes_l3_s at h
  replace h := popS_inv h; obtain ⟨v1, e2, rfl, h⟩ := h
  replace h := as_li_u8_inv h; obtain ⟨l0, rfl, h⟩ := h
  replace h := popS_inv h; obtain ⟨v3, e4, rfl, h⟩ := h
  replace h := asO_li_u8_inv h; obtain ⟨m3, rfl, h⟩ := h
  replace h := popS_inv h; obtain ⟨v5, e6, rfl, h⟩ := h
  replace h := asI_inv h; obtain ⟨i4, rfl, h⟩ := h
  replace h := popN_inv h; obtain ⟨rfl, h⟩ := h
  replace h := popN_inv h; obtain ⟨rfl, h⟩ := h
  exact ⟨k, (cadastreref0_CopyBytes_l3_eq0 k K k (l0, m3, i4)).trans h⟩
theorem cadastreref0_CopyBytes_cok {ρ : Type} (k : Nat) : COK (cadastreref0_CopyBytes_cfg (ρ := ρ) k) (cadastreref0_CopyBytes_G k) cadastreref0_CopyBytes_code :=
  cok_of (tl := [(3, cadastreref0_CopyBytes_l3_s k)]) (tj := []) (tb := []) rfl rfl rfl (all_nth 1 (by kernel_rfl) ⟨iter_case (by kernel_rfl) rfl (cadastreref0_CopyBytes_l3_ok0 k), trivial⟩) (nil_all (by kernel_rfl)) (fun p hp => by cases hp)
noncomputable def cadastreref0_CopyBytes_enc (r : (List Int)) : AV UU := .own (.li_u8 r)
noncomputable def cadastreref0_CopyBytes_dec (v : AV UU) (_ : List (List (AV UU))) : Option (List Int) :=
asO_li_u8 v fun r =>
some r
theorem cadastreref0_CopyBytes_dec_enc (v : AV UU) (b : List (List (AV UU))) (r : (List Int)) (h : cadastreref0_CopyBytes_dec v b = some r) : v = cadastreref0_CopyBytes_enc r := by
  unfold cadastreref0_CopyBytes_dec at h
  replace h := asO_li_u8_inv h; obtain ⟨r, rfl, h⟩ := h
  cases h
  rfl
theorem cadastreref0_CopyBytes_eq (k : Nat) (l0 : List Int) : bodyK UX (cadastreref0_CopyBytes_cfg k) (cadastreref0_CopyBytes_G k) Try.f33 [.pv (.typ (.li_u8 l0))] [] cadastreref0_CopyBytes_dec = cadastreref0_CopyBytes k l0 := by kernel_rfl
theorem cadastreref0_CopyBytes_con (k : Nat) (l0 : List Int) (r : (List Int)) (h : cadastreref0_CopyBytes k l0 = some r) : Con (X := UX) Try.prog 33 [.pv (.typ (.li_u8 l0))] [] (cadastreref0_CopyBytes_enc r) [] :=
  con_of_body xok tok Try.func33 cadastreref0_CopyBytes_body (cadastreref0_CopyBytes_gok k) rfl (cadastreref0_CopyBytes_cok k) (of_decide_eq_true (by kernel_rfl)) cadastreref0_CopyBytes_dec_enc ((cadastreref0_CopyBytes_eq k l0).trans h)
noncomputable def cadastreref0_CopyBytes_an {ρ : Type} (k : Nat) : An UX ρ := fun args bx K =>
popA args fun v1 a2 =>
as_li_u8 v1 fun l0 =>
popN a2 <|
popN bx <|
(cadastreref0_CopyBytes k l0).bind fun r => K (cadastreref0_CopyBytes_enc r) []
theorem cadastreref0_CopyBytes_ok {ρ : Type} (k : Nat) : AnsOK Try.prog 33 (cadastreref0_CopyBytes_an (ρ := ρ) k) := by
  intro args bx K r h
  unfold cadastreref0_CopyBytes_an at h
  replace h := popA_inv h; obtain ⟨v1, a2, rfl, h⟩ := h
  replace h := as_li_u8_inv h; obtain ⟨l0, rfl, h⟩ := h
  replace h := popN_inv h; obtain ⟨rfl, h⟩ := h
  replace h := popN_inv h; obtain ⟨rfl, h⟩ := h
  replace h := bind_inv h
  obtain ⟨x, hx, h⟩ := h
  exact ⟨there_of Try.func33 (by kernel_rfl) cadastreref0_CopyBytes_body, _, _, h, cadastreref0_CopyBytes_con k l0 x hx⟩
end Go.Proofs.Ytekjibpkkgldgaa.M
