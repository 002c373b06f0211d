/-
  What the program's functions answer: the printed functions' answers.
-/
import Derived.Test.YtjkgphpmdkbpfaaDoorVU
import Derived.Test.YtjkgphpmdkbpfaaDoorAxTab
import Derived.Test.YtjkgphpmdkbpfaaDoorLay
namespace Go.Proofs.YtjkgphpmdkbpfaaDoor.V
open Go Go.AX
/-! cadastre/cadastrelaw0.Light -/
noncomputable def cadastrelaw0_Light_code : Code := match Tryd.f16.body with | some c => c | none => .skip
theorem cadastrelaw0_Light_body : Tryd.f16.body = some cadastrelaw0_Light_code := by kernel_rfl
noncomputable def cadastrelaw0_Light_G {ρ : Type} (k : Nat) : Ans UX ρ := gnil
theorem cadastrelaw0_Light_gok {ρ : Type} (k : Nat) : GOK Tryd.prog (cadastrelaw0_Light_G (ρ := ρ) k) := gok_nil
noncomputable def cadastrelaw0_Light_l5_s {ρ : Type} (k : Nat) : Run UX ρ := fun s K =>
popS 0 s.env fun v1 e2 =>
as_l29 v1 fun l0 =>
popS 1 e2 fun v3 e4 =>
asI .i64 v3 fun most1 =>
popS 5 e4 fun v5 e6 =>
asI .i64 v5 fun n5 =>
popS 6 e6 fun v7 e8 =>
asI .i64 v7 fun i6 =>
popN e8 <|
popN s.hp <|
cadastrelaw0_Light_l5 k (fun most1 n5 => K (.exit 0) ⟨[(1, .pv (.int .i64 most1)), (5, .pv (.int .i64 n5))], []⟩) k l0 most1 n5 i6
noncomputable def cadastrelaw0_Light_cfg {ρ : Type} (k : Nat) : Cfg UX ρ where
  live i := (assoc [(0, [0, 1]), (1, [0, 1]), (2, []), (3, [0, 1]), (4, [0, 1, 5]), (5, [0, 1, 5, 6]), (6, [0, 1, 5, 6]), (7, [0, 1, 5, 6]), (8, [1, 5])] i).getD []
  boxes i := (assoc [(0, []), (1, []), (2, []), (3, []), (4, []), (5, []), (6, []), (7, []), (8, [])] i).getD []
  tk i := (assoc [] i).getD []
  n := 27
  labelR l := (assoc [] l).getD 0
  loops := assoc [(5, cadastrelaw0_Light_l5_s k)]
  labels := assoc []
  joins := assoc []
  xl i e := match e with
    | .nxt => assoc [] i
    | .ret => assoc [] i
    | .exit j => (assoc [(5, [(0, ([1, 5], []))])] i).bind fun l => assoc l j
    | .goto j => (assoc [] i).bind fun l => assoc l j
noncomputable def cadastrelaw0_Light_L : List Code := selI [5] (loopsOf cadastrelaw0_Light_code)
noncomputable def cadastrelaw0_Light_J : List Code := selI [] (joinsOf cadastrelaw0_Light_code)
noncomputable def cadastrelaw0_Light_S : List Code := scopesOf cadastrelaw0_Light_code
theorem cadastrelaw0_Light_l5_eq0 {ρ : Type} (k : Nat) (K : Ex → St UU → Option ρ) : ∀ (n : Nat) (v : (List S29) × Int × Int × Int), iterK UX (fun s => s.at (cadastrelaw0_Light_cfg (ρ := ρ) k).live (cadastrelaw0_Light_cfg (ρ := ρ) k).boxes (some 5)) (exec UX (cadastrelaw0_Light_cfg k) (cadastrelaw0_Light_G k) (cadastrelaw0_Light_L.getD 0 .skip)) n ⟨[(0, .pv (.typ (.l29 v.1))), (1, .pv (.int .i64 v.2.1)), (5, .pv (.int .i64 v.2.2.1)), (6, .pv (.int .i64 v.2.2.2))], []⟩ (nrmK UX (cadastrelaw0_Light_cfg k) 5 K) = cadastrelaw0_Light_l5 k (fun most1 n5 => K (.exit 0) ⟨[(1, .pv (.int .i64 most1)), (5, .pv (.int .i64 n5))], []⟩) n v.1 v.2.1 v.2.2.1 v.2.2.2 :=
  iter_rec (X := UX) (fun v => ⟨[(0, .pv (.typ (.l29 v.1))), (1, .pv (.int .i64 v.2.1)), (5, .pv (.int .i64 v.2.2.1)), (6, .pv (.int .i64 v.2.2.2))], []⟩) (fun rec v => cadastrelaw0_Light_l5_b k (fun most1 n5 => K (.exit 0) ⟨[(1, .pv (.int .i64 most1)), (5, .pv (.int .i64 n5))], []⟩) (fun l0 most1 n5 i6 => rec (l0, most1, n5, i6)) v.1 v.2.1 v.2.2.1 v.2.2.2) (fun n v => cadastrelaw0_Light_l5 k (fun most1 n5 => K (.exit 0) ⟨[(1, .pv (.int .i64 most1)), (5, .pv (.int .i64 n5))], []⟩) n v.1 v.2.1 v.2.2.1 v.2.2.2) (fun n v => by kernel_rfl) (fun _ => rfl) (fun _ _ => rfl)
theorem cadastrelaw0_Light_l5_ok0 {ρ : Type} (k : Nat) : IterOK UX (cadastrelaw0_Light_cfg (ρ := ρ) k) (cadastrelaw0_Light_G k) (cadastrelaw0_Light_L.getD 0 .skip) 5 (cadastrelaw0_Light_l5_s k) := by
  intro s K r h
  obtain ⟨env, hp⟩ := s
  unfold cadastrelaw0_Light_l5_s at h
  replace h := popS_inv h; obtain ⟨v1, e2, rfl, h⟩ := h
  replace h := as_l29_inv h; obtain ⟨l0, rfl, h⟩ := h
  replace h := popS_inv h; obtain ⟨v3, e4, rfl, h⟩ := h
  replace h := asI_inv h; obtain ⟨most1, rfl, h⟩ := h
  replace h := popS_inv h; obtain ⟨v5, e6, rfl, h⟩ := h
  replace h := asI_inv h; obtain ⟨n5, rfl, h⟩ := h
  replace h := popS_inv h; obtain ⟨v7, e8, rfl, h⟩ := h
  replace h := asI_inv h; obtain ⟨i6, rfl, h⟩ := h
  replace h := popN_inv h; obtain ⟨rfl, h⟩ := h
  replace h := popN_inv h; obtain ⟨rfl, h⟩ := h
  exact ⟨k, (cadastrelaw0_Light_l5_eq0 k K k (l0, most1, n5, i6)).trans h⟩
theorem cadastrelaw0_Light_cok {ρ : Type} (k : Nat) : COK (cadastrelaw0_Light_cfg (ρ := ρ) k) (cadastrelaw0_Light_G k) cadastrelaw0_Light_code :=
  cok_of (tl := [(5, cadastrelaw0_Light_l5_s k)]) (tj := []) (tb := []) rfl rfl rfl (all_nth 1 (by kernel_rfl) ⟨iter_case (by kernel_rfl) rfl (cadastrelaw0_Light_l5_ok0 k), trivial⟩) (nil_all (by kernel_rfl)) (fun p hp => by cases hp)
noncomputable def cadastrelaw0_Light_enc (r : Bool) : AV UU := .pv (.bool r)
noncomputable def cadastrelaw0_Light_dec (v : AV UU) (_ : List (List (AV UU))) : Option Bool :=
asB v fun r0 =>
some r0
theorem cadastrelaw0_Light_dec_enc (v : AV UU) (b : List (List (AV UU))) (r : Bool) (h : cadastrelaw0_Light_dec v b = some r) : v = cadastrelaw0_Light_enc r := by
  unfold cadastrelaw0_Light_dec at h
  replace h := asB_inv h; obtain ⟨r0, rfl, h⟩ := h
  cases h
  rfl
theorem cadastrelaw0_Light_eq (k : Nat) (l0 : List S29) (most1 : Int) : bodyK UX (cadastrelaw0_Light_cfg k) (cadastrelaw0_Light_G k) Tryd.f16 [.pv (.typ (.l29 l0)), .pv (.int .i64 most1)] [] cadastrelaw0_Light_dec = cadastrelaw0_Light k l0 most1 := by kernel_rfl
theorem cadastrelaw0_Light_con (k : Nat) (l0 : List S29) (most1 : Int) (r : Bool) (h : cadastrelaw0_Light k l0 most1 = some r) : Con (X := UX) Tryd.prog 16 [.pv (.typ (.l29 l0)), .pv (.int .i64 most1)] [] (cadastrelaw0_Light_enc r) [] :=
  con_of_body xok tok Tryd.func16 cadastrelaw0_Light_body (cadastrelaw0_Light_gok k) rfl (cadastrelaw0_Light_cok k) (of_decide_eq_true (by kernel_rfl)) cadastrelaw0_Light_dec_enc ((cadastrelaw0_Light_eq k l0 most1).trans h)
noncomputable def cadastrelaw0_Light_an {ρ : Type} (k : Nat) : An UX ρ := fun args bx K =>
popA args fun v1 a2 =>
as_l29 v1 fun l0 =>
popA a2 fun v3 a4 =>
asI .i64 v3 fun most1 =>
popN a4 <|
popN bx <|
(cadastrelaw0_Light k l0 most1).bind fun r => K (cadastrelaw0_Light_enc r) []
theorem cadastrelaw0_Light_ok {ρ : Type} (k : Nat) : AnsOK Tryd.prog 16 (cadastrelaw0_Light_an (ρ := ρ) k) := by
  intro args bx K r h
  unfold cadastrelaw0_Light_an at h
  replace h := popA_inv h; obtain ⟨v1, a2, rfl, h⟩ := h
  replace h := as_l29_inv h; obtain ⟨l0, rfl, h⟩ := h
  replace h := popA_inv h; obtain ⟨v3, a4, rfl, h⟩ := h
  replace h := asI_inv h; obtain ⟨most1, rfl, h⟩ := h
  replace h := popN_inv h; obtain ⟨rfl, h⟩ := h
  replace h := popN_inv h; obtain ⟨rfl, h⟩ := h
  replace h := bind_inv h
  obtain ⟨x, hx, h⟩ := h
  exact ⟨there_of Tryd.func16 (by kernel_rfl) cadastrelaw0_Light_body, _, _, h, cadastrelaw0_Light_con k l0 most1 x hx⟩

/-! cadastre/cadastrelaw24.heavy -/
noncomputable def cadastrelaw24_heavy_code : Code := match Tryd.f5.body with | some c => c | none => .skip
theorem cadastrelaw24_heavy_body : Tryd.f5.body = some cadastrelaw24_heavy_code := by kernel_rfl
noncomputable def cadastrelaw24_heavy_G {ρ : Type} (k : Nat) : Ans UX ρ := gk 16 (cadastrelaw0_Light_an k) (gnil)
theorem cadastrelaw24_heavy_gok {ρ : Type} (k : Nat) : GOK Tryd.prog (cadastrelaw24_heavy_G (ρ := ρ) k) := gok_cons (cadastrelaw0_Light_ok k) (gok_nil)
noncomputable def cadastrelaw24_heavy_cfg {ρ : Type} (k : Nat) : Cfg UX ρ where
  live i := (assoc [(0, [0]), (1, [1])] i).getD []
  boxes i := (assoc [(0, []), (1, [1])] i).getD []
  tk i := (assoc [] i).getD []
  n := 18
  labelR l := (assoc [] l).getD 0
  loops := assoc []
  labels := assoc []
  joins := assoc []
  xl i e := match e with
    | .nxt => assoc [] i
    | .ret => assoc [] i
    | .exit j => (assoc [] i).bind fun l => assoc l j
    | .goto j => (assoc [] i).bind fun l => assoc l j
noncomputable def cadastrelaw24_heavy_L : List Code := selI [] (loopsOf cadastrelaw24_heavy_code)
noncomputable def cadastrelaw24_heavy_J : List Code := selI [] (joinsOf cadastrelaw24_heavy_code)
noncomputable def cadastrelaw24_heavy_S : List Code := scopesOf cadastrelaw24_heavy_code
theorem cadastrelaw24_heavy_cok {ρ : Type} (k : Nat) : COK (cadastrelaw24_heavy_cfg (ρ := ρ) k) (cadastrelaw24_heavy_G k) cadastrelaw24_heavy_code :=
  cok_of (tl := []) (tj := []) (tb := []) rfl rfl rfl (nil_all (by kernel_rfl)) (nil_all (by kernel_rfl)) (fun p hp => by cases hp)
noncomputable def cadastrelaw24_heavy_enc (r : Bool) : AV UU := .pv (.bool r)
noncomputable def cadastrelaw24_heavy_dec (v : AV UU) (_ : List (List (AV UU))) : Option Bool :=
asB v fun r0 =>
some r0
theorem cadastrelaw24_heavy_dec_enc (v : AV UU) (b : List (List (AV UU))) (r : Bool) (h : cadastrelaw24_heavy_dec v b = some r) : v = cadastrelaw24_heavy_enc r := by
  unfold cadastrelaw24_heavy_dec at h
  replace h := asB_inv h; obtain ⟨r0, rfl, h⟩ := h
  cases h
  rfl
theorem cadastrelaw24_heavy_eq (k : Nat) (p0 : S25) : bodyK UX (cadastrelaw24_heavy_cfg k) (cadastrelaw24_heavy_G k) Tryd.f5 [.pv (.typ (.s25 p0))] [] cadastrelaw24_heavy_dec = cadastrelaw24_heavy k p0 := by kernel_rfl
theorem cadastrelaw24_heavy_con (k : Nat) (p0 : S25) (r : Bool) (h : cadastrelaw24_heavy k p0 = some r) : Con (X := UX) Tryd.prog 5 [.pv (.typ (.s25 p0))] [] (cadastrelaw24_heavy_enc r) [] :=
  con_of_body xok tok Tryd.func5 cadastrelaw24_heavy_body (cadastrelaw24_heavy_gok k) rfl (cadastrelaw24_heavy_cok k) (of_decide_eq_true (by kernel_rfl)) cadastrelaw24_heavy_dec_enc ((cadastrelaw24_heavy_eq k p0).trans h)
noncomputable def cadastrelaw24_heavy_an {ρ : Type} (k : Nat) : An UX ρ := fun args bx K =>
popA args fun v1 a2 =>
as_s25 v1 fun p0 =>
popN a2 <|
popN bx <|
(cadastrelaw24_heavy k p0).bind fun r => K (cadastrelaw24_heavy_enc r) []
theorem cadastrelaw24_heavy_ok {ρ : Type} (k : Nat) : AnsOK Tryd.prog 5 (cadastrelaw24_heavy_an (ρ := ρ) k) := by
  intro args bx K r h
  unfold cadastrelaw24_heavy_an at h
  replace h := popA_inv h; obtain ⟨v1, a2, rfl, h⟩ := h
  replace h := as_s25_inv h; obtain ⟨p0, rfl, h⟩ := h
  replace h := popN_inv h; obtain ⟨rfl, h⟩ := h
  replace h := popN_inv h; obtain ⟨rfl, h⟩ := h
  replace h := bind_inv h
  obtain ⟨x, hx, h⟩ := h
  exact ⟨there_of Tryd.func5 (by kernel_rfl) cadastrelaw24_heavy_body, _, _, h, cadastrelaw24_heavy_con k p0 x hx⟩

/-! cadastre/cadastreref23.reg -/
noncomputable def cadastreref23_reg_code : Code := match Tryd.f28.body with | some c => c | none => .skip
theorem cadastreref23_reg_body : Tryd.f28.body = some cadastreref23_reg_code := by kernel_rfl
noncomputable def cadastreref23_reg_G {ρ : Type} (k : Nat) : Ans UX ρ := gnil
theorem cadastreref23_reg_gok {ρ : Type} (k : Nat) : GOK Tryd.prog (cadastreref23_reg_G (ρ := ρ) k) := gok_nil
noncomputable def cadastreref23_reg_cfg {ρ : Type} (k : Nat) : Cfg UX ρ where
  live i := (assoc [(0, [0]), (1, [0])] i).getD []
  boxes i := (assoc [(0, []), (1, [])] i).getD []
  tk i := (assoc [] i).getD []
  n := 9
  labelR l := (assoc [] l).getD 0
  loops := assoc []
  labels := assoc []
  joins := assoc []
  xl i e := match e with
    | .nxt => assoc [] i
    | .ret => assoc [] i
    | .exit j => (assoc [] i).bind fun l => assoc l j
    | .goto j => (assoc [] i).bind fun l => assoc l j
noncomputable def cadastreref23_reg_L : List Code := selI [] (loopsOf cadastreref23_reg_code)
noncomputable def cadastreref23_reg_J : List Code := selI [] (joinsOf cadastreref23_reg_code)
noncomputable def cadastreref23_reg_S : List Code := scopesOf cadastreref23_reg_code
theorem cadastreref23_reg_cok {ρ : Type} (k : Nat) : COK (cadastreref23_reg_cfg (ρ := ρ) k) (cadastreref23_reg_G k) cadastreref23_reg_code :=
  cok_of (tl := []) (tj := []) (tb := []) rfl rfl rfl (nil_all (by kernel_rfl)) (nil_all (by kernel_rfl)) (fun p hp => by cases hp)
noncomputable def cadastreref23_reg_enc (r : Bool) : AV UU := .pv (.bool r)
noncomputable def cadastreref23_reg_dec (v : AV UU) (_ : List (List (AV UU))) : Option Bool :=
asB v fun r0 =>
some r0
theorem cadastreref23_reg_dec_enc (v : AV UU) (b : List (List (AV UU))) (r : Bool) (h : cadastreref23_reg_dec v b = some r) : v = cadastreref23_reg_enc r := by
  unfold cadastreref23_reg_dec at h
  replace h := asB_inv h; obtain ⟨r0, rfl, h⟩ := h
  cases h
  rfl
theorem cadastreref23_reg_eq (k : Nat) (n0 : Int) : bodyK UX (cadastreref23_reg_cfg k) (cadastreref23_reg_G k) Tryd.f28 [.pv (.int .i64 n0)] [] cadastreref23_reg_dec = cadastreref23_reg k n0 := by kernel_rfl
theorem cadastreref23_reg_con (k : Nat) (n0 : Int) (r : Bool) (h : cadastreref23_reg k n0 = some r) : Con (X := UX) Tryd.prog 28 [.pv (.int .i64 n0)] [] (cadastreref23_reg_enc r) [] :=
  con_of_body xok tok Tryd.func28 cadastreref23_reg_body (cadastreref23_reg_gok k) rfl (cadastreref23_reg_cok k) (of_decide_eq_true (by kernel_rfl)) cadastreref23_reg_dec_enc ((cadastreref23_reg_eq k n0).trans h)
noncomputable def cadastreref23_reg_an {ρ : Type} (k : Nat) : An UX ρ := fun args bx K =>
popA args fun v1 a2 =>
asI .i64 v1 fun n0 =>
popN a2 <|
popN bx <|
(cadastreref23_reg k n0).bind fun r => K (cadastreref23_reg_enc r) []
theorem cadastreref23_reg_ok {ρ : Type} (k : Nat) : AnsOK Tryd.prog 28 (cadastreref23_reg_an (ρ := ρ) k) := by
  intro args bx K r h
  unfold cadastreref23_reg_an at h
  replace h := popA_inv h; obtain ⟨v1, a2, rfl, h⟩ := h
  replace h := asI_inv h; obtain ⟨n0, rfl, h⟩ := h
  replace h := popN_inv h; obtain ⟨rfl, h⟩ := h
  replace h := popN_inv h; obtain ⟨rfl, h⟩ := h
  replace h := bind_inv h
  obtain ⟨x, hx, h⟩ := h
  exact ⟨there_of Tryd.func28 (by kernel_rfl) cadastreref23_reg_body, _, _, h, cadastreref23_reg_con k n0 x hx⟩

/-! cadastre/cadastreref2.May -/
noncomputable def cadastreref2_May_code : Code := match Tryd.f18.body with | some c => c | none => .skip
theorem cadastreref2_May_body : Tryd.f18.body = some cadastreref2_May_code := by kernel_rfl
noncomputable def cadastreref2_May_G {ρ : Type} (k : Nat) : Ans UX ρ := gnil
theorem cadastreref2_May_gok {ρ : Type} (k : Nat) : GOK Tryd.prog (cadastreref2_May_G (ρ := ρ) k) := gok_nil
noncomputable def cadastreref2_May_j8_s {ρ : Type} (k : Nat) : Run UX ρ := fun s K =>
popS 1 s.env fun v1 e2 =>
asP 1 0 v1 <|
popN e2 <|
popB 1 s.hp fun c3 e4 =>
popA c3 fun v5 c6 =>
asI .i64 v5 fun z7 =>
popA c6 fun v8 c9 =>
asI .i64 v8 fun z10 =>
popA c9 fun v11 c12 =>
asS v11 fun z13 =>
popN c12 <|
popN e4 <|
cadastreref2_May_j8 k (fun t2 => K .ret ⟨[(2, .pv (.bool t2))], []⟩) (⟨z7, z10, z13⟩ : S29)
noncomputable def cadastreref2_May_cfg {ρ : Type} (k : Nat) : Cfg UX ρ where
  live i := (assoc [(0, [0]), (1, [1]), (2, [1, 4]), (3, [1]), (4, [1, 4]), (5, [1]), (6, [1, 4]), (7, [1, 4]), (8, [1]), (9, [])] i).getD []
  boxes i := (assoc [(0, []), (1, [1]), (2, [1]), (3, [1]), (4, [1]), (5, [1]), (6, [1]), (7, [1]), (8, [1]), (9, [])] i).getD []
  tk i := (assoc [] i).getD []
  n := 27
  labelR l := (assoc [] l).getD 0
  loops := assoc []
  labels := assoc []
  joins := assoc [(8, cadastreref2_May_j8_s k)]
  xl i e := match e with
    | .nxt => assoc [] i
    | .ret => assoc [(8, ([2], []))] i
    | .exit j => (assoc [] i).bind fun l => assoc l j
    | .goto j => (assoc [] i).bind fun l => assoc l j
noncomputable def cadastreref2_May_L : List Code := selI [] (loopsOf cadastreref2_May_code)
noncomputable def cadastreref2_May_J : List Code := selI [8] (joinsOf cadastreref2_May_code)
noncomputable def cadastreref2_May_S : List Code := scopesOf cadastreref2_May_code
theorem cadastreref2_May_j8_eq0 {ρ : Type} (k : Nat) (K : Ex → St UU → Option ρ) (v1 : S29) : exec UX (cadastreref2_May_cfg k) (cadastreref2_May_G k) (cadastreref2_May_J.getD 0 .skip) ⟨[(1, .ptr 1 0)], [(1, [.pv (.int .i64 v1.f0), .pv (.int .i64 v1.f1), .pv (.str v1.f2)])]⟩ (nrmK UX (cadastreref2_May_cfg k) 8 K) = cadastreref2_May_j8 k (fun t2 => K .ret ⟨[(2, .pv (.bool t2))], []⟩) v1 := by kernel_rfl
theorem cadastreref2_May_j8_ok0 {ρ : Type} (k : Nat) : JoinOK UX (cadastreref2_May_cfg (ρ := ρ) k) (cadastreref2_May_G k) (cadastreref2_May_J.getD 0 .skip) 8 (cadastreref2_May_j8_s k) := by
  intro s K r h
  obtain ⟨env, hp⟩ := s
  unfold cadastreref2_May_j8_s at h
  replace h := popS_inv h; obtain ⟨v1, e2, rfl, h⟩ := h
  replace h := asP_inv h; obtain ⟨rfl, h⟩ := h
  replace h := popN_inv h; obtain ⟨rfl, h⟩ := h
  replace h := popB_inv h; obtain ⟨c3, e4, rfl, h⟩ := h
  replace h := popA_inv h; obtain ⟨v5, c6, rfl, h⟩ := h
  replace h := asI_inv h; obtain ⟨z7, rfl, h⟩ := h
  replace h := popA_inv h; obtain ⟨v8, c9, rfl, h⟩ := h
  replace h := asI_inv h; obtain ⟨z10, rfl, h⟩ := h
  replace h := popA_inv h; obtain ⟨v11, c12, rfl, h⟩ := h
  replace h := asS_inv h; obtain ⟨z13, rfl, h⟩ := h
  replace h := popN_inv h; obtain ⟨rfl, h⟩ := h
  replace h := popN_inv h; obtain ⟨rfl, h⟩ := h
  exact (cadastreref2_May_j8_eq0 k K (⟨z7, z10, z13⟩ : S29)).trans h
theorem cadastreref2_May_cok {ρ : Type} (k : Nat) : COK (cadastreref2_May_cfg (ρ := ρ) k) (cadastreref2_May_G k) cadastreref2_May_code :=
  cok_of (tl := []) (tj := [(8, cadastreref2_May_j8_s k)]) (tb := []) rfl rfl rfl (nil_all (by kernel_rfl)) (all_nth 1 (by kernel_rfl) ⟨join_case (by kernel_rfl) rfl (cadastreref2_May_j8_ok0 k), trivial⟩) (fun p hp => by cases hp)
noncomputable def cadastreref2_May_enc (r : Bool) : AV UU := .pv (.bool r)
noncomputable def cadastreref2_May_dec (v : AV UU) (_ : List (List (AV UU))) : Option Bool :=
asB v fun r0 =>
some r0
theorem cadastreref2_May_dec_enc (v : AV UU) (b : List (List (AV UU))) (r : Bool) (h : cadastreref2_May_dec v b = some r) : v = cadastreref2_May_enc r := by
  unfold cadastreref2_May_dec at h
  replace h := asB_inv h; obtain ⟨r0, rfl, h⟩ := h
  cases h
  rfl
theorem cadastreref2_May_eq (k : Nat) (v0 : S29) : bodyK UX (cadastreref2_May_cfg k) (cadastreref2_May_G k) Tryd.f18 [.pv (.typ (.s29 v0))] [] cadastreref2_May_dec = cadastreref2_May k v0 := by kernel_rfl
theorem cadastreref2_May_con (k : Nat) (v0 : S29) (r : Bool) (h : cadastreref2_May k v0 = some r) : Con (X := UX) Tryd.prog 18 [.pv (.typ (.s29 v0))] [] (cadastreref2_May_enc r) [] :=
  con_of_body xok tok Tryd.func18 cadastreref2_May_body (cadastreref2_May_gok k) rfl (cadastreref2_May_cok k) (of_decide_eq_true (by kernel_rfl)) cadastreref2_May_dec_enc ((cadastreref2_May_eq k v0).trans h)
noncomputable def cadastreref2_May_an {ρ : Type} (k : Nat) : An UX ρ := fun args bx K =>
popA args fun v1 a2 =>
as_s29 v1 fun v0 =>
popN a2 <|
popN bx <|
(cadastreref2_May k v0).bind fun r => K (cadastreref2_May_enc r) []
theorem cadastreref2_May_ok {ρ : Type} (k : Nat) : AnsOK Tryd.prog 18 (cadastreref2_May_an (ρ := ρ) k) := by
  intro args bx K r h
  unfold cadastreref2_May_an at h
  replace h := popA_inv h; obtain ⟨v1, a2, rfl, h⟩ := h
  replace h := as_s29_inv h; obtain ⟨v0, rfl, h⟩ := h
  replace h := popN_inv h; obtain ⟨rfl, h⟩ := h
  replace h := popN_inv h; obtain ⟨rfl, h⟩ := h
  replace h := bind_inv h
  obtain ⟨x, hx, h⟩ := h
  exact ⟨there_of Tryd.func18 (by kernel_rfl) cadastreref2_May_body, _, _, h, cadastreref2_May_con k v0 x hx⟩

/-! cadastre/cadastreref23.one -/
noncomputable def cadastreref23_one_code : Code := match Tryd.f29.body with | some c => c | none => .skip
theorem cadastreref23_one_body : Tryd.f29.body = some cadastreref23_one_code := by kernel_rfl
noncomputable def cadastreref23_one_G {ρ : Type} (k : Nat) : Ans UX ρ := gnil
theorem cadastreref23_one_gok {ρ : Type} (k : Nat) : GOK Tryd.prog (cadastreref23_one_G (ρ := ρ) k) := gok_nil
noncomputable def cadastreref23_one_cfg {ρ : Type} (k : Nat) : Cfg UX ρ where
  live i := (assoc [(0, [0]), (1, [0])] i).getD []
  boxes i := (assoc [(0, []), (1, [])] i).getD []
  tk i := (assoc [] i).getD []
  n := 9
  labelR l := (assoc [] l).getD 0
  loops := assoc []
  labels := assoc []
  joins := assoc []
  xl i e := match e with
    | .nxt => assoc [] i
    | .ret => assoc [] i
    | .exit j => (assoc [] i).bind fun l => assoc l j
    | .goto j => (assoc [] i).bind fun l => assoc l j
noncomputable def cadastreref23_one_L : List Code := selI [] (loopsOf cadastreref23_one_code)
noncomputable def cadastreref23_one_J : List Code := selI [] (joinsOf cadastreref23_one_code)
noncomputable def cadastreref23_one_S : List Code := scopesOf cadastreref23_one_code
theorem cadastreref23_one_cok {ρ : Type} (k : Nat) : COK (cadastreref23_one_cfg (ρ := ρ) k) (cadastreref23_one_G k) cadastreref23_one_code :=
  cok_of (tl := []) (tj := []) (tb := []) rfl rfl rfl (nil_all (by kernel_rfl)) (nil_all (by kernel_rfl)) (fun p hp => by cases hp)
noncomputable def cadastreref23_one_enc (r : Bool) : AV UU := .pv (.bool r)
noncomputable def cadastreref23_one_dec (v : AV UU) (_ : List (List (AV UU))) : Option Bool :=
asB v fun r0 =>
some r0
theorem cadastreref23_one_dec_enc (v : AV UU) (b : List (List (AV UU))) (r : Bool) (h : cadastreref23_one_dec v b = some r) : v = cadastreref23_one_enc r := by
  unfold cadastreref23_one_dec at h
  replace h := asB_inv h; obtain ⟨r0, rfl, h⟩ := h
  cases h
  rfl
theorem cadastreref23_one_eq (k : Nat) (op0 : Int) : bodyK UX (cadastreref23_one_cfg k) (cadastreref23_one_G k) Tryd.f29 [.pv (.int .i64 op0)] [] cadastreref23_one_dec = cadastreref23_one k op0 := by kernel_rfl
theorem cadastreref23_one_con (k : Nat) (op0 : Int) (r : Bool) (h : cadastreref23_one k op0 = some r) : Con (X := UX) Tryd.prog 29 [.pv (.int .i64 op0)] [] (cadastreref23_one_enc r) [] :=
  con_of_body xok tok Tryd.func29 cadastreref23_one_body (cadastreref23_one_gok k) rfl (cadastreref23_one_cok k) (of_decide_eq_true (by kernel_rfl)) cadastreref23_one_dec_enc ((cadastreref23_one_eq k op0).trans h)
noncomputable def cadastreref23_one_an {ρ : Type} (k : Nat) : An UX ρ := fun args bx K =>
popA args fun v1 a2 =>
asI .i64 v1 fun op0 =>
popN a2 <|
popN bx <|
(cadastreref23_one k op0).bind fun r => K (cadastreref23_one_enc r) []
theorem cadastreref23_one_ok {ρ : Type} (k : Nat) : AnsOK Tryd.prog 29 (cadastreref23_one_an (ρ := ρ) k) := by
  intro args bx K r h
  unfold cadastreref23_one_an at h
  replace h := popA_inv h; obtain ⟨v1, a2, rfl, h⟩ := h
  replace h := asI_inv h; obtain ⟨op0, rfl, h⟩ := h
  replace h := popN_inv h; obtain ⟨rfl, h⟩ := h
  replace h := popN_inv h; obtain ⟨rfl, h⟩ := h
  replace h := bind_inv h
  obtain ⟨x, hx, h⟩ := h
  exact ⟨there_of Tryd.func29 (by kernel_rfl) cadastreref23_one_body, _, _, h, cadastreref23_one_con k op0 x hx⟩

/-! cadastre/cadastreref23.two -/
noncomputable def cadastreref23_two_code : Code := match Tryd.f30.body with | some c => c | none => .skip
theorem cadastreref23_two_body : Tryd.f30.body = some cadastreref23_two_code := by kernel_rfl
noncomputable def cadastreref23_two_G {ρ : Type} (k : Nat) : Ans UX ρ := gnil
theorem cadastreref23_two_gok {ρ : Type} (k : Nat) : GOK Tryd.prog (cadastreref23_two_G (ρ := ρ) k) := gok_nil
noncomputable def cadastreref23_two_cfg {ρ : Type} (k : Nat) : Cfg UX ρ where
  live i := (assoc [(0, [0]), (1, [0])] i).getD []
  boxes i := (assoc [(0, []), (1, [])] i).getD []
  tk i := (assoc [] i).getD []
  n := 9
  labelR l := (assoc [] l).getD 0
  loops := assoc []
  labels := assoc []
  joins := assoc []
  xl i e := match e with
    | .nxt => assoc [] i
    | .ret => assoc [] i
    | .exit j => (assoc [] i).bind fun l => assoc l j
    | .goto j => (assoc [] i).bind fun l => assoc l j
noncomputable def cadastreref23_two_L : List Code := selI [] (loopsOf cadastreref23_two_code)
noncomputable def cadastreref23_two_J : List Code := selI [] (joinsOf cadastreref23_two_code)
noncomputable def cadastreref23_two_S : List Code := scopesOf cadastreref23_two_code
theorem cadastreref23_two_cok {ρ : Type} (k : Nat) : COK (cadastreref23_two_cfg (ρ := ρ) k) (cadastreref23_two_G k) cadastreref23_two_code :=
  cok_of (tl := []) (tj := []) (tb := []) rfl rfl rfl (nil_all (by kernel_rfl)) (nil_all (by kernel_rfl)) (fun p hp => by cases hp)
noncomputable def cadastreref23_two_enc (r : Bool) : AV UU := .pv (.bool r)
noncomputable def cadastreref23_two_dec (v : AV UU) (_ : List (List (AV UU))) : Option Bool :=
asB v fun r0 =>
some r0
theorem cadastreref23_two_dec_enc (v : AV UU) (b : List (List (AV UU))) (r : Bool) (h : cadastreref23_two_dec v b = some r) : v = cadastreref23_two_enc r := by
  unfold cadastreref23_two_dec at h
  replace h := asB_inv h; obtain ⟨r0, rfl, h⟩ := h
  cases h
  rfl
theorem cadastreref23_two_eq (k : Nat) (op0 : Int) : bodyK UX (cadastreref23_two_cfg k) (cadastreref23_two_G k) Tryd.f30 [.pv (.int .i64 op0)] [] cadastreref23_two_dec = cadastreref23_two k op0 := by kernel_rfl
theorem cadastreref23_two_con (k : Nat) (op0 : Int) (r : Bool) (h : cadastreref23_two k op0 = some r) : Con (X := UX) Tryd.prog 30 [.pv (.int .i64 op0)] [] (cadastreref23_two_enc r) [] :=
  con_of_body xok tok Tryd.func30 cadastreref23_two_body (cadastreref23_two_gok k) rfl (cadastreref23_two_cok k) (of_decide_eq_true (by kernel_rfl)) cadastreref23_two_dec_enc ((cadastreref23_two_eq k op0).trans h)
noncomputable def cadastreref23_two_an {ρ : Type} (k : Nat) : An UX ρ := fun args bx K =>
popA args fun v1 a2 =>
asI .i64 v1 fun op0 =>
popN a2 <|
popN bx <|
(cadastreref23_two k op0).bind fun r => K (cadastreref23_two_enc r) []
theorem cadastreref23_two_ok {ρ : Type} (k : Nat) : AnsOK Tryd.prog 30 (cadastreref23_two_an (ρ := ρ) k) := by
  intro args bx K r h
  unfold cadastreref23_two_an at h
  replace h := popA_inv h; obtain ⟨v1, a2, rfl, h⟩ := h
  replace h := asI_inv h; obtain ⟨op0, rfl, h⟩ := h
  replace h := popN_inv h; obtain ⟨rfl, h⟩ := h
  replace h := popN_inv h; obtain ⟨rfl, h⟩ := h
  replace h := bind_inv h
  obtain ⟨x, hx, h⟩ := h
  exact ⟨there_of Tryd.func30 (by kernel_rfl) cadastreref23_two_body, _, _, h, cadastreref23_two_con k op0 x hx⟩

/-! cadastre/cadastreref23.instruction -/
noncomputable def cadastreref23_instruction_code : Code := match Tryd.f17.body with | some c => c | none => .skip
theorem cadastreref23_instruction_body : Tryd.f17.body = some cadastreref23_instruction_code := by kernel_rfl
noncomputable def cadastreref23_instruction_G {ρ : Type} (k : Nat) : Ans UX ρ := gk 28 (cadastreref23_reg_an k) (gk 18 (cadastreref2_May_an k) (gk 29 (cadastreref23_one_an k) (gk 30 (cadastreref23_two_an k) (gnil))))
theorem cadastreref23_instruction_gok {ρ : Type} (k : Nat) : GOK Tryd.prog (cadastreref23_instruction_G (ρ := ρ) k) := gok_cons (cadastreref23_reg_ok k) (gok_cons (cadastreref2_May_ok k) (gok_cons (cadastreref23_one_ok k) (gok_cons (cadastreref23_two_ok k) (gok_nil))))
noncomputable def cadastreref23_instruction_j28_s {ρ : Type} (k : Nat) : Run UX ρ := fun s K =>
popS 1 s.env fun v1 e2 =>
asI .i64 v1 fun n1 =>
popS 3 e2 fun v3 e4 =>
asP 3 0 v3 <|
popS 7 e4 fun v5 e6 =>
asP 7 0 v5 <|
popN e6 <|
popB 3 s.hp fun c7 e8 =>
popA c7 fun v9 c10 =>
asI .i64 v9 fun z11 =>
popA c10 fun v12 c13 =>
asI .i64 v12 fun z14 =>
popA c13 fun v15 c16 =>
asI .i64 v15 fun z17 =>
popA c16 fun v18 c19 =>
asI .i64 v18 fun z20 =>
popA c19 fun v21 c22 =>
asI .i64 v21 fun z23 =>
popA c22 fun v24 c25 =>
asI .i64 v24 fun z26 =>
popA c25 fun v27 c28 =>
asS v27 fun z29 =>
popA c28 fun v30 c31 =>
asI .i64 v30 fun z32 =>
popN c31 <|
popB 7 e8 fun c33 e34 =>
popA c33 fun v35 c36 =>
asI .i64 v35 fun z37 =>
popA c36 fun v38 c39 =>
asI .i64 v38 fun z40 =>
popA c39 fun v41 c42 =>
asI .i64 v41 fun z43 =>
popA c42 fun v44 c45 =>
asI .i64 v44 fun z46 =>
popA c45 fun v47 c48 =>
asI .i64 v47 fun z49 =>
popA c48 fun v50 c51 =>
asI .i64 v50 fun z52 =>
popA c51 fun v53 c54 =>
asS v53 fun z55 =>
popA c54 fun v56 c57 =>
asI .i64 v56 fun z58 =>
popN c57 <|
popN e34 <|
cadastreref23_instruction_j28 k (fun ok8 c3 x7 => K .nxt ⟨[(3, .ptr 3 0), (7, .ptr 7 0), (8, .pv (.bool ok8))], [(3, [.pv (.int .i64 c3.f0), .pv (.int .i64 c3.f1), .pv (.int .i64 c3.f2), .pv (.int .i64 c3.f3), .pv (.int .i64 c3.f4.f0), .pv (.int .i64 c3.f4.f1), .pv (.str c3.f4.f2), .pv (.int .i64 c3.f5)]), (7, [.pv (.int .i64 x7.f0), .pv (.int .i64 x7.f1), .pv (.int .i64 x7.f2), .pv (.int .i64 x7.f3), .pv (.int .i64 x7.f4.f0), .pv (.int .i64 x7.f4.f1), .pv (.str x7.f4.f2), .pv (.int .i64 x7.f5)])]⟩) n1 (⟨z11, z14, z17, z20, (⟨z23, z26, z29⟩ : S29), z32⟩ : S43) (⟨z37, z40, z43, z46, (⟨z49, z52, z55⟩ : S29), z58⟩ : S43)
noncomputable def cadastreref23_instruction_j31_s {ρ : Type} (k : Nat) : Run UX ρ := fun s K =>
popS 3 s.env fun v1 e2 =>
asP 3 0 v1 <|
popS 7 e2 fun v3 e4 =>
asP 7 0 v3 <|
popS 8 e4 fun v5 e6 =>
asB v5 fun ok8 =>
popS 13 e6 fun v7 e8 =>
asI .i64 v7 fun t13 =>
popN e8 <|
popB 3 s.hp fun c9 e10 =>
popA c9 fun v11 c12 =>
asI .i64 v11 fun z13 =>
popA c12 fun v14 c15 =>
asI .i64 v14 fun z16 =>
popA c15 fun v17 c18 =>
asI .i64 v17 fun z19 =>
popA c18 fun v20 c21 =>
asI .i64 v20 fun z22 =>
popA c21 fun v23 c24 =>
asI .i64 v23 fun z25 =>
popA c24 fun v26 c27 =>
asI .i64 v26 fun z28 =>
popA c27 fun v29 c30 =>
asS v29 fun z31 =>
popA c30 fun v32 c33 =>
asI .i64 v32 fun z34 =>
popN c33 <|
popB 7 e10 fun c35 e36 =>
popA c35 fun v37 c38 =>
asI .i64 v37 fun z39 =>
popA c38 fun v40 c41 =>
asI .i64 v40 fun z42 =>
popA c41 fun v43 c44 =>
asI .i64 v43 fun z45 =>
popA c44 fun v46 c47 =>
asI .i64 v46 fun z48 =>
popA c47 fun v49 c50 =>
asI .i64 v49 fun z51 =>
popA c50 fun v52 c53 =>
asI .i64 v52 fun z54 =>
popA c53 fun v55 c56 =>
asS v55 fun z57 =>
popA c56 fun v58 c59 =>
asI .i64 v58 fun z60 =>
popN c59 <|
popN e36 <|
cadastreref23_instruction_j31 k (fun ok8 c3 x7 => K .nxt ⟨[(3, .ptr 3 0), (7, .ptr 7 0), (8, .pv (.bool ok8))], [(3, [.pv (.int .i64 c3.f0), .pv (.int .i64 c3.f1), .pv (.int .i64 c3.f2), .pv (.int .i64 c3.f3), .pv (.int .i64 c3.f4.f0), .pv (.int .i64 c3.f4.f1), .pv (.str c3.f4.f2), .pv (.int .i64 c3.f5)]), (7, [.pv (.int .i64 x7.f0), .pv (.int .i64 x7.f1), .pv (.int .i64 x7.f2), .pv (.int .i64 x7.f3), .pv (.int .i64 x7.f4.f0), .pv (.int .i64 x7.f4.f1), .pv (.str x7.f4.f2), .pv (.int .i64 x7.f5)])]⟩) ok8 t13 (⟨z13, z16, z19, z22, (⟨z25, z28, z31⟩ : S29), z34⟩ : S43) (⟨z39, z42, z45, z48, (⟨z51, z54, z57⟩ : S29), z60⟩ : S43)
noncomputable def cadastreref23_instruction_cfg {ρ : Type} (k : Nat) : Cfg UX ρ where
  live i := (assoc [(0, [0, 1, 2]), (1, [1, 2, 3]), (2, [1, 2, 3, 7]), (3, [1, 2, 3, 7, 8]), (4, [1, 2, 3, 7, 8, 13]), (5, [3, 7]), (6, [3, 7]), (7, [3, 7]), (8, [1, 2, 3, 7, 8, 13]), (9, [2, 3, 7]), (10, [2, 3, 7]), (11, [2, 3, 7]), (12, [1, 3, 7, 8, 13]), (13, [3, 7]), (14, [3, 7]), (15, [3, 7]), (16, [3, 7]), (17, [1, 3, 7, 8, 13]), (18, [3, 7]), (19, [3, 7]), (20, [3, 7]), (21, [3, 7]), (22, [3, 7]), (23, [1, 3, 7, 8, 13]), (24, [1, 3, 7]), (25, [1, 3, 7]), (26, [1, 3, 7, 8, 13]), (27, [1, 3, 7, 8, 13]), (28, [1, 3, 7]), (29, [1, 3, 7]), (30, [1, 3, 7]), (31, [3, 7, 8, 13]), (32, [3, 7]), (33, [3, 7]), (34, [3, 7, 8])] i).getD []
  boxes i := (assoc [(0, []), (1, [3]), (2, [3, 7]), (3, [3, 7]), (4, [3, 7]), (5, [3, 7]), (6, [3, 7]), (7, [3, 7]), (8, [3, 7]), (9, [3, 7]), (10, [3, 7]), (11, [3, 7]), (12, [3, 7]), (13, [3, 7]), (14, [3, 7]), (15, [3, 7]), (16, [3, 7]), (17, [3, 7]), (18, [3, 7]), (19, [3, 7]), (20, [3, 7]), (21, [3, 7]), (22, [3, 7]), (23, [3, 7]), (24, [3, 7]), (25, [3, 7]), (26, [3, 7]), (27, [3, 7]), (28, [3, 7]), (29, [3, 7]), (30, [3, 7]), (31, [3, 7]), (32, [3, 7]), (33, [3, 7]), (34, [3, 7])] i).getD []
  tk i := (assoc [] i).getD []
  n := 159
  labelR l := (assoc [] l).getD 0
  loops := assoc []
  labels := assoc []
  joins := assoc [(28, cadastreref23_instruction_j28_s k), (31, cadastreref23_instruction_j31_s k)]
  xl i e := match e with
    | .nxt => assoc [(28, ([3, 7, 8], [3, 7])), (31, ([3, 7, 8], [3, 7]))] i
    | .ret => assoc [] i
    | .exit j => (assoc [] i).bind fun l => assoc l j
    | .goto j => (assoc [] i).bind fun l => assoc l j
noncomputable def cadastreref23_instruction_L : List Code := selI [] (loopsOf cadastreref23_instruction_code)
noncomputable def cadastreref23_instruction_J : List Code := selI [28, 31] (joinsOf cadastreref23_instruction_code)
noncomputable def cadastreref23_instruction_S : List Code := scopesOf cadastreref23_instruction_code
theorem cadastreref23_instruction_j28_eq0 {ρ : Type} (k : Nat) (K : Ex → St UU → Option ρ) (n1 : Int) (c3 : S43) (x7 : S43) : exec UX (cadastreref23_instruction_cfg k) (cadastreref23_instruction_G k) (cadastreref23_instruction_J.getD 0 .skip) ⟨[(1, .pv (.int .i64 n1)), (3, .ptr 3 0), (7, .ptr 7 0)], [(3, [.pv (.int .i64 c3.f0), .pv (.int .i64 c3.f1), .pv (.int .i64 c3.f2), .pv (.int .i64 c3.f3), .pv (.int .i64 c3.f4.f0), .pv (.int .i64 c3.f4.f1), .pv (.str c3.f4.f2), .pv (.int .i64 c3.f5)]), (7, [.pv (.int .i64 x7.f0), .pv (.int .i64 x7.f1), .pv (.int .i64 x7.f2), .pv (.int .i64 x7.f3), .pv (.int .i64 x7.f4.f0), .pv (.int .i64 x7.f4.f1), .pv (.str x7.f4.f2), .pv (.int .i64 x7.f5)])]⟩ (nrmK UX (cadastreref23_instruction_cfg k) 28 K) = cadastreref23_instruction_j28 k (fun ok8 c3 x7 => K .nxt ⟨[(3, .ptr 3 0), (7, .ptr 7 0), (8, .pv (.bool ok8))], [(3, [.pv (.int .i64 c3.f0), .pv (.int .i64 c3.f1), .pv (.int .i64 c3.f2), .pv (.int .i64 c3.f3), .pv (.int .i64 c3.f4.f0), .pv (.int .i64 c3.f4.f1), .pv (.str c3.f4.f2), .pv (.int .i64 c3.f5)]), (7, [.pv (.int .i64 x7.f0), .pv (.int .i64 x7.f1), .pv (.int .i64 x7.f2), .pv (.int .i64 x7.f3), .pv (.int .i64 x7.f4.f0), .pv (.int .i64 x7.f4.f1), .pv (.str x7.f4.f2), .pv (.int .i64 x7.f5)])]⟩) n1 c3 x7 := by kernel_rfl
theorem cadastreref23_instruction_j28_ok0 {ρ : Type} (k : Nat) : JoinOK UX (cadastreref23_instruction_cfg (ρ := ρ) k) (cadastreref23_instruction_G k) (cadastreref23_instruction_J.getD 0 .skip) 28 (cadastreref23_instruction_j28_s k) := by
  intro s K r h
  obtain ⟨env, hp⟩ := s
  unfold cadastreref23_instruction_j28_s at h
  replace h := popS_inv h; obtain ⟨v1, e2, rfl, h⟩ := h
  replace h := asI_inv h; obtain ⟨n1, rfl, h⟩ := h
  replace h := popS_inv h; obtain ⟨v3, e4, rfl, h⟩ := h
  replace h := asP_inv h; obtain ⟨rfl, h⟩ := h
  replace h := popS_inv h; obtain ⟨v5, e6, rfl, h⟩ := h
  replace h := asP_inv h; obtain ⟨rfl, h⟩ := h
  replace h := popN_inv h; obtain ⟨rfl, h⟩ := h
  replace h := popB_inv h; obtain ⟨c7, e8, rfl, h⟩ := h
  replace h := popA_inv h; obtain ⟨v9, c10, rfl, h⟩ := h
  replace h := asI_inv h; obtain ⟨z11, rfl, h⟩ := h
  replace h := popA_inv h; obtain ⟨v12, c13, rfl, h⟩ := h
  replace h := asI_inv h; obtain ⟨z14, rfl, h⟩ := h
  replace h := popA_inv h; obtain ⟨v15, c16, rfl, h⟩ := h
  replace h := asI_inv h; obtain ⟨z17, rfl, h⟩ := h
  replace h := popA_inv h; obtain ⟨v18, c19, rfl, h⟩ := h
  replace h := asI_inv h; obtain ⟨z20, rfl, h⟩ := h
  replace h := popA_inv h; obtain ⟨v21, c22, rfl, h⟩ := h
  replace h := asI_inv h; obtain ⟨z23, rfl, h⟩ := h
  replace h := popA_inv h; obtain ⟨v24, c25, rfl, h⟩ := h
  replace h := asI_inv h; obtain ⟨z26, rfl, h⟩ := h
  replace h := popA_inv h; obtain ⟨v27, c28, rfl, h⟩ := h
  replace h := asS_inv h; obtain ⟨z29, rfl, h⟩ := h
  replace h := popA_inv h; obtain ⟨v30, c31, rfl, h⟩ := h
  replace h := asI_inv h; obtain ⟨z32, rfl, h⟩ := h
  replace h := popN_inv h; obtain ⟨rfl, h⟩ := h
  replace h := popB_inv h; obtain ⟨c33, e34, rfl, h⟩ := h
  replace h := popA_inv h; obtain ⟨v35, c36, rfl, h⟩ := h
  replace h := asI_inv h; obtain ⟨z37, rfl, h⟩ := h
  replace h := popA_inv h; obtain ⟨v38, c39, rfl, h⟩ := h
  replace h := asI_inv h; obtain ⟨z40, rfl, h⟩ := h
  replace h := popA_inv h; obtain ⟨v41, c42, rfl, h⟩ := h
  replace h := asI_inv h; obtain ⟨z43, rfl, h⟩ := h
  replace h := popA_inv h; obtain ⟨v44, c45, rfl, h⟩ := h
  replace h := asI_inv h; obtain ⟨z46, rfl, h⟩ := h
  replace h := popA_inv h; obtain ⟨v47, c48, rfl, h⟩ := h
  replace h := asI_inv h; obtain ⟨z49, rfl, h⟩ := h
  replace h := popA_inv h; obtain ⟨v50, c51, rfl, h⟩ := h
  replace h := asI_inv h; obtain ⟨z52, rfl, h⟩ := h
  replace h := popA_inv h; obtain ⟨v53, c54, rfl, h⟩ := h
  replace h := asS_inv h; obtain ⟨z55, rfl, h⟩ := h
  replace h := popA_inv h; obtain ⟨v56, c57, rfl, h⟩ := h
  replace h := asI_inv h; obtain ⟨z58, rfl, h⟩ := h
  replace h := popN_inv h; obtain ⟨rfl, h⟩ := h
  replace h := popN_inv h; obtain ⟨rfl, h⟩ := h
  exact (cadastreref23_instruction_j28_eq0 k K n1 (⟨z11, z14, z17, z20, (⟨z23, z26, z29⟩ : S29), z32⟩ : S43) (⟨z37, z40, z43, z46, (⟨z49, z52, z55⟩ : S29), z58⟩ : S43)).trans h
theorem cadastreref23_instruction_j31_eq1 {ρ : Type} (k : Nat) (K : Ex → St UU → Option ρ) (ok8 : Bool) (t13 : Int) (c3 : S43) (x7 : S43) : exec UX (cadastreref23_instruction_cfg k) (cadastreref23_instruction_G k) (cadastreref23_instruction_J.getD 1 .skip) ⟨[(3, .ptr 3 0), (7, .ptr 7 0), (8, .pv (.bool ok8)), (13, .pv (.int .i64 t13))], [(3, [.pv (.int .i64 c3.f0), .pv (.int .i64 c3.f1), .pv (.int .i64 c3.f2), .pv (.int .i64 c3.f3), .pv (.int .i64 c3.f4.f0), .pv (.int .i64 c3.f4.f1), .pv (.str c3.f4.f2), .pv (.int .i64 c3.f5)]), (7, [.pv (.int .i64 x7.f0), .pv (.int .i64 x7.f1), .pv (.int .i64 x7.f2), .pv (.int .i64 x7.f3), .pv (.int .i64 x7.f4.f0), .pv (.int .i64 x7.f4.f1), .pv (.str x7.f4.f2), .pv (.int .i64 x7.f5)])]⟩ (nrmK UX (cadastreref23_instruction_cfg k) 31 K) = cadastreref23_instruction_j31 k (fun ok8 c3 x7 => K .nxt ⟨[(3, .ptr 3 0), (7, .ptr 7 0), (8, .pv (.bool ok8))], [(3, [.pv (.int .i64 c3.f0), .pv (.int .i64 c3.f1), .pv (.int .i64 c3.f2), .pv (.int .i64 c3.f3), .pv (.int .i64 c3.f4.f0), .pv (.int .i64 c3.f4.f1), .pv (.str c3.f4.f2), .pv (.int .i64 c3.f5)]), (7, [.pv (.int .i64 x7.f0), .pv (.int .i64 x7.f1), .pv (.int .i64 x7.f2), .pv (.int .i64 x7.f3), .pv (.int .i64 x7.f4.f0), .pv (.int .i64 x7.f4.f1), .pv (.str x7.f4.f2), .pv (.int .i64 x7.f5)])]⟩) ok8 t13 c3 x7 := by kernel_rfl
theorem cadastreref23_instruction_j31_ok1 {ρ : Type} (k : Nat) : JoinOK UX (cadastreref23_instruction_cfg (ρ := ρ) k) (cadastreref23_instruction_G k) (cadastreref23_instruction_J.getD 1 .skip) 31 (cadastreref23_instruction_j31_s k) := by
  intro s K r h
  obtain ⟨env, hp⟩ := s
  unfold cadastreref23_instruction_j31_s at h
  replace h := popS_inv h; obtain ⟨v1, e2, rfl, h⟩ := h
  replace h := asP_inv h; obtain ⟨rfl, h⟩ := h
  replace h := popS_inv h; obtain ⟨v3, e4, rfl, h⟩ := h
  replace h := asP_inv h; obtain ⟨rfl, h⟩ := h
  replace h := popS_inv h; obtain ⟨v5, e6, rfl, h⟩ := h
  replace h := asB_inv h; obtain ⟨ok8, rfl, h⟩ := h
  replace h := popS_inv h; obtain ⟨v7, e8, rfl, h⟩ := h
  replace h := asI_inv h; obtain ⟨t13, rfl, h⟩ := h
  replace h := popN_inv h; obtain ⟨rfl, h⟩ := h
  replace h := popB_inv h; obtain ⟨c9, e10, rfl, h⟩ := h
  replace h := popA_inv h; obtain ⟨v11, c12, rfl, h⟩ := h
  replace h := asI_inv h; obtain ⟨z13, rfl, h⟩ := h
  replace h := popA_inv h; obtain ⟨v14, c15, rfl, h⟩ := h
  replace h := asI_inv h; obtain ⟨z16, rfl, h⟩ := h
  replace h := popA_inv h; obtain ⟨v17, c18, rfl, h⟩ := h
  replace h := asI_inv h; obtain ⟨z19, rfl, h⟩ := h
  replace h := popA_inv h; obtain ⟨v20, c21, rfl, h⟩ := h
  replace h := asI_inv h; obtain ⟨z22, rfl, h⟩ := h
  replace h := popA_inv h; obtain ⟨v23, c24, rfl, h⟩ := h
  replace h := asI_inv h; obtain ⟨z25, rfl, h⟩ := h
  replace h := popA_inv h; obtain ⟨v26, c27, rfl, h⟩ := h
  replace h := asI_inv h; obtain ⟨z28, rfl, h⟩ := h
  replace h := popA_inv h; obtain ⟨v29, c30, rfl, h⟩ := h
  replace h := asS_inv h; obtain ⟨z31, rfl, h⟩ := h
  replace h := popA_inv h; obtain ⟨v32, c33, rfl, h⟩ := h
  replace h := asI_inv h; obtain ⟨z34, rfl, h⟩ := h
  replace h := popN_inv h; obtain ⟨rfl, h⟩ := h
  replace h := popB_inv h; obtain ⟨c35, e36, rfl, h⟩ := h
  replace h := popA_inv h; obtain ⟨v37, c38, rfl, h⟩ := h
  replace h := asI_inv h; obtain ⟨z39, rfl, h⟩ := h
  replace h := popA_inv h; obtain ⟨v40, c41, rfl, h⟩ := h
  replace h := asI_inv h; obtain ⟨z42, rfl, h⟩ := h
  replace h := popA_inv h; obtain ⟨v43, c44, rfl, h⟩ := h
  replace h := asI_inv h; obtain ⟨z45, rfl, h⟩ := h
  replace h := popA_inv h; obtain ⟨v46, c47, rfl, h⟩ := h
  replace h := asI_inv h; obtain ⟨z48, rfl, h⟩ := h
  replace h := popA_inv h; obtain ⟨v49, c50, rfl, h⟩ := h
  replace h := asI_inv h; obtain ⟨z51, rfl, h⟩ := h
  replace h := popA_inv h; obtain ⟨v52, c53, rfl, h⟩ := h
  replace h := asI_inv h; obtain ⟨z54, rfl, h⟩ := h
  replace h := popA_inv h; obtain ⟨v55, c56, rfl, h⟩ := h
  replace h := asS_inv h; obtain ⟨z57, rfl, h⟩ := h
  replace h := popA_inv h; obtain ⟨v58, c59, rfl, h⟩ := h
  replace h := asI_inv h; obtain ⟨z60, rfl, h⟩ := h
  replace h := popN_inv h; obtain ⟨rfl, h⟩ := h
  replace h := popN_inv h; obtain ⟨rfl, h⟩ := h
  exact (cadastreref23_instruction_j31_eq1 k K ok8 t13 (⟨z13, z16, z19, z22, (⟨z25, z28, z31⟩ : S29), z34⟩ : S43) (⟨z39, z42, z45, z48, (⟨z51, z54, z57⟩ : S29), z60⟩ : S43)).trans h
theorem cadastreref23_instruction_cok {ρ : Type} (k : Nat) : COK (cadastreref23_instruction_cfg (ρ := ρ) k) (cadastreref23_instruction_G k) cadastreref23_instruction_code :=
  cok_of (tl := []) (tj := [(28, cadastreref23_instruction_j28_s k), (31, cadastreref23_instruction_j31_s k)]) (tb := []) rfl rfl rfl (nil_all (by kernel_rfl)) (all_nth 2 (by kernel_rfl) ⟨join_case (by kernel_rfl) rfl (cadastreref23_instruction_j31_ok1 k), join_case (by kernel_rfl) rfl (cadastreref23_instruction_j28_ok0 k), trivial⟩) (fun p hp => by cases hp)
noncomputable def cadastreref23_instruction_enc (r : Bool) : AV UU := .pv (.bool r)
noncomputable def cadastreref23_instruction_dec (v : AV UU) (_ : List (List (AV UU))) : Option Bool :=
asB v fun r0 =>
some r0
theorem cadastreref23_instruction_dec_enc (v : AV UU) (b : List (List (AV UU))) (r : Bool) (h : cadastreref23_instruction_dec v b = some r) : v = cadastreref23_instruction_enc r := by
  unfold cadastreref23_instruction_dec at h
  replace h := asB_inv h; obtain ⟨r0, rfl, h⟩ := h
  cases h
  rfl
theorem cadastreref23_instruction_eq (k : Nat) (c0 : S43) (n1 : Int) (places2 : Int) : bodyK UX (cadastreref23_instruction_cfg k) (cadastreref23_instruction_G k) Tryd.f17 [.pv (.typ (.s43 c0)), .pv (.int .i64 n1), .pv (.int .i64 places2)] [] cadastreref23_instruction_dec = cadastreref23_instruction k c0 n1 places2 := by kernel_rfl
theorem cadastreref23_instruction_con (k : Nat) (c0 : S43) (n1 : Int) (places2 : Int) (r : Bool) (h : cadastreref23_instruction k c0 n1 places2 = some r) : Con (X := UX) Tryd.prog 17 [.pv (.typ (.s43 c0)), .pv (.int .i64 n1), .pv (.int .i64 places2)] [] (cadastreref23_instruction_enc r) [] :=
  con_of_body xok tok Tryd.func17 cadastreref23_instruction_body (cadastreref23_instruction_gok k) rfl (cadastreref23_instruction_cok k) (of_decide_eq_true (by kernel_rfl)) cadastreref23_instruction_dec_enc ((cadastreref23_instruction_eq k c0 n1 places2).trans h)
noncomputable def cadastreref23_instruction_an {ρ : Type} (k : Nat) : An UX ρ := fun args bx K =>
popA args fun v1 a2 =>
as_s43 v1 fun c0 =>
popA a2 fun v3 a4 =>
asI .i64 v3 fun n1 =>
popA a4 fun v5 a6 =>
asI .i64 v5 fun places2 =>
popN a6 <|
popN bx <|
(cadastreref23_instruction k c0 n1 places2).bind fun r => K (cadastreref23_instruction_enc r) []
theorem cadastreref23_instruction_ok {ρ : Type} (k : Nat) : AnsOK Tryd.prog 17 (cadastreref23_instruction_an (ρ := ρ) k) := by
  intro args bx K r h
  unfold cadastreref23_instruction_an at h
  replace h := popA_inv h; obtain ⟨v1, a2, rfl, h⟩ := h
  replace h := as_s43_inv h; obtain ⟨c0, rfl, h⟩ := h
  replace h := popA_inv h; obtain ⟨v3, a4, rfl, h⟩ := h
  replace h := asI_inv h; obtain ⟨n1, rfl, h⟩ := h
  replace h := popA_inv h; obtain ⟨v5, a6, rfl, h⟩ := h
  replace h := asI_inv h; obtain ⟨places2, rfl, h⟩ := h
  replace h := popN_inv h; obtain ⟨rfl, h⟩ := h
  replace h := popN_inv h; obtain ⟨rfl, h⟩ := h
  replace h := bind_inv h
  obtain ⟨x, hx, h⟩ := h
  exact ⟨there_of Tryd.func17 (by kernel_rfl) cadastreref23_instruction_body, _, _, h, cadastreref23_instruction_con k c0 n1 places2 x hx⟩

/-! cadastre/cadastreref23.Code -/
noncomputable def cadastreref23_Code_code : Code := match Tryd.f6.body with | some c => c | none => .skip
theorem cadastreref23_Code_body : Tryd.f6.body = some cadastreref23_Code_code := by kernel_rfl
noncomputable def cadastreref23_Code_G {ρ : Type} (k : Nat) : Ans UX ρ := gk 17 (cadastreref23_instruction_an k) (gnil)
theorem cadastreref23_Code_gok {ρ : Type} (k : Nat) : GOK Tryd.prog (cadastreref23_Code_G (ρ := ρ) k) := gok_cons (cadastreref23_instruction_ok k) (gok_nil)
noncomputable def cadastreref23_Code_l4_s {ρ : Type} (k : Nat) : Run UX ρ := fun s K =>
popS 0 s.env fun v1 e2 =>
as_l43 v1 fun l0 =>
popS 1 e2 fun v3 e4 =>
asI .i64 v3 fun places1 =>
popS 5 e4 fun v5 e6 =>
asI .i64 v5 fun i5 =>
popN e6 <|
popN s.hp <|
cadastreref23_Code_l4 k (fun t4 => K .ret ⟨[(4, .pv (.bool t4))], []⟩) (K (.exit 0) ⟨[], []⟩) k l0 places1 i5
noncomputable def cadastreref23_Code_cfg {ρ : Type} (k : Nat) : Cfg UX ρ where
  live i := (assoc [(0, [0, 1]), (1, [0, 1]), (2, []), (3, [0, 1]), (4, [0, 1, 5]), (5, [0, 1, 5]), (6, [0, 1, 5]), (7, []), (8, [])] i).getD []
  boxes i := (assoc [(0, []), (1, []), (2, []), (3, []), (4, []), (5, []), (6, []), (7, []), (8, [])] i).getD []
  tk i := (assoc [] i).getD []
  n := 24
  labelR l := (assoc [] l).getD 0
  loops := assoc [(4, cadastreref23_Code_l4_s k)]
  labels := assoc []
  joins := assoc []
  xl i e := match e with
    | .nxt => assoc [] i
    | .ret => assoc [(4, ([4], []))] i
    | .exit j => (assoc [(4, [(0, ([], []))])] i).bind fun l => assoc l j
    | .goto j => (assoc [] i).bind fun l => assoc l j
noncomputable def cadastreref23_Code_L : List Code := selI [4] (loopsOf cadastreref23_Code_code)
noncomputable def cadastreref23_Code_J : List Code := selI [] (joinsOf cadastreref23_Code_code)
noncomputable def cadastreref23_Code_S : List Code := scopesOf cadastreref23_Code_code
theorem cadastreref23_Code_l4_eq0 {ρ : Type} (k : Nat) (K : Ex → St UU → Option ρ) : ∀ (n : Nat) (v : (List S43) × Int × Int), iterK UX (fun s => s.at (cadastreref23_Code_cfg (ρ := ρ) k).live (cadastreref23_Code_cfg (ρ := ρ) k).boxes (some 4)) (exec UX (cadastreref23_Code_cfg k) (cadastreref23_Code_G k) (cadastreref23_Code_L.getD 0 .skip)) n ⟨[(0, .pv (.typ (.l43 v.1))), (1, .pv (.int .i64 v.2.1)), (5, .pv (.int .i64 v.2.2))], []⟩ (nrmK UX (cadastreref23_Code_cfg k) 4 K) = cadastreref23_Code_l4 k (fun t4 => K .ret ⟨[(4, .pv (.bool t4))], []⟩) (K (.exit 0) ⟨[], []⟩) n v.1 v.2.1 v.2.2 :=
  iter_rec (X := UX) (fun v => ⟨[(0, .pv (.typ (.l43 v.1))), (1, .pv (.int .i64 v.2.1)), (5, .pv (.int .i64 v.2.2))], []⟩) (fun rec v => cadastreref23_Code_l4_b k (fun t4 => K .ret ⟨[(4, .pv (.bool t4))], []⟩) (K (.exit 0) ⟨[], []⟩) (fun l0 places1 i5 => rec (l0, places1, i5)) v.1 v.2.1 v.2.2) (fun n v => cadastreref23_Code_l4 k (fun t4 => K .ret ⟨[(4, .pv (.bool t4))], []⟩) (K (.exit 0) ⟨[], []⟩) n v.1 v.2.1 v.2.2) (fun n v => by kernel_rfl) (fun _ => rfl) (fun _ _ => rfl)
theorem cadastreref23_Code_l4_ok0 {ρ : Type} (k : Nat) : IterOK UX (cadastreref23_Code_cfg (ρ := ρ) k) (cadastreref23_Code_G k) (cadastreref23_Code_L.getD 0 .skip) 4 (cadastreref23_Code_l4_s k) := by
  intro s K r h
  obtain ⟨env, hp⟩ := s
  unfold cadastreref23_Code_l4_s at h
  replace h := popS_inv h; obtain ⟨v1, e2, rfl, h⟩ := h
  replace h := as_l43_inv h; obtain ⟨l0, rfl, h⟩ := h
  replace h := popS_inv h; obtain ⟨v3, e4, rfl, h⟩ := h
  replace h := asI_inv h; obtain ⟨places1, rfl, h⟩ := h
  replace h := popS_inv h; obtain ⟨v5, e6, rfl, h⟩ := h
  replace h := asI_inv h; obtain ⟨i5, rfl, h⟩ := h
  replace h := popN_inv h; obtain ⟨rfl, h⟩ := h
  replace h := popN_inv h; obtain ⟨rfl, h⟩ := h
  exact ⟨k, (cadastreref23_Code_l4_eq0 k K k (l0, places1, i5)).trans h⟩
theorem cadastreref23_Code_cok {ρ : Type} (k : Nat) : COK (cadastreref23_Code_cfg (ρ := ρ) k) (cadastreref23_Code_G k) cadastreref23_Code_code :=
  cok_of (tl := [(4, cadastreref23_Code_l4_s k)]) (tj := []) (tb := []) rfl rfl rfl (all_nth 1 (by kernel_rfl) ⟨iter_case (by kernel_rfl) rfl (cadastreref23_Code_l4_ok0 k), trivial⟩) (nil_all (by kernel_rfl)) (fun p hp => by cases hp)
noncomputable def cadastreref23_Code_enc (r : Bool) : AV UU := .pv (.bool r)
noncomputable def cadastreref23_Code_dec (v : AV UU) (_ : List (List (AV UU))) : Option Bool :=
asB v fun r0 =>
some r0
theorem cadastreref23_Code_dec_enc (v : AV UU) (b : List (List (AV UU))) (r : Bool) (h : cadastreref23_Code_dec v b = some r) : v = cadastreref23_Code_enc r := by
  unfold cadastreref23_Code_dec at h
  replace h := asB_inv h; obtain ⟨r0, rfl, h⟩ := h
  cases h
  rfl
theorem cadastreref23_Code_eq (k : Nat) (l0 : List S43) (places1 : Int) : bodyK UX (cadastreref23_Code_cfg k) (cadastreref23_Code_G k) Tryd.f6 [.pv (.typ (.l43 l0)), .pv (.int .i64 places1)] [] cadastreref23_Code_dec = cadastreref23_Code k l0 places1 := by kernel_rfl
theorem cadastreref23_Code_con (k : Nat) (l0 : List S43) (places1 : Int) (r : Bool) (h : cadastreref23_Code k l0 places1 = some r) : Con (X := UX) Tryd.prog 6 [.pv (.typ (.l43 l0)), .pv (.int .i64 places1)] [] (cadastreref23_Code_enc r) [] :=
  con_of_body xok tok Tryd.func6 cadastreref23_Code_body (cadastreref23_Code_gok k) rfl (cadastreref23_Code_cok k) (of_decide_eq_true (by kernel_rfl)) cadastreref23_Code_dec_enc ((cadastreref23_Code_eq k l0 places1).trans h)
noncomputable def cadastreref23_Code_an {ρ : Type} (k : Nat) : An UX ρ := fun args bx K =>
popA args fun v1 a2 =>
as_l43 v1 fun l0 =>
popA a2 fun v3 a4 =>
asI .i64 v3 fun places1 =>
popN a4 <|
popN bx <|
(cadastreref23_Code k l0 places1).bind fun r => K (cadastreref23_Code_enc r) []
theorem cadastreref23_Code_ok {ρ : Type} (k : Nat) : AnsOK Tryd.prog 6 (cadastreref23_Code_an (ρ := ρ) k) := by
  intro args bx K r h
  unfold cadastreref23_Code_an at h
  replace h := popA_inv h; obtain ⟨v1, a2, rfl, h⟩ := h
  replace h := as_l43_inv h; obtain ⟨l0, rfl, h⟩ := h
  replace h := popA_inv h; obtain ⟨v3, a4, rfl, h⟩ := h
  replace h := asI_inv h; obtain ⟨places1, rfl, h⟩ := h
  replace h := popN_inv h; obtain ⟨rfl, h⟩ := h
  replace h := popN_inv h; obtain ⟨rfl, h⟩ := h
  replace h := bind_inv h
  obtain ⟨x, hx, h⟩ := h
  exact ⟨there_of Tryd.func6 (by kernel_rfl) cadastreref23_Code_body, _, _, h, cadastreref23_Code_con k l0 places1 x hx⟩

/-! cadastre/cadastreref2.All -/
noncomputable def cadastreref2_All_code : Code := match Tryd.f7.body with | some c => c | none => .skip
theorem cadastreref2_All_body : Tryd.f7.body = some cadastreref2_All_code := by kernel_rfl
noncomputable def cadastreref2_All_G {ρ : Type} (k : Nat) : Ans UX ρ := gk 18 (cadastreref2_May_an k) (gnil)
theorem cadastreref2_All_gok {ρ : Type} (k : Nat) : GOK Tryd.prog (cadastreref2_All_G (ρ := ρ) k) := gok_cons (cadastreref2_May_ok k) (gok_nil)
noncomputable def cadastreref2_All_l2_s {ρ : Type} (k : Nat) : Run UX ρ := fun s K =>
popS 0 s.env fun v1 e2 =>
as_l29 v1 fun l0 =>
popS 3 e2 fun v3 e4 =>
asI .i64 v3 fun i3 =>
popN e4 <|
popN s.hp <|
cadastreref2_All_l2 k (fun t2 => K .ret ⟨[(2, .pv (.bool t2))], []⟩) (K (.exit 0) ⟨[], []⟩) k l0 i3
noncomputable def cadastreref2_All_cfg {ρ : Type} (k : Nat) : Cfg UX ρ where
  live i := (assoc [(0, [0]), (1, [0]), (2, [0, 3]), (3, [0, 3]), (4, [0, 3]), (5, []), (6, [])] i).getD []
  boxes i := (assoc [(0, []), (1, []), (2, []), (3, []), (4, []), (5, []), (6, [])] i).getD []
  tk i := (assoc [] i).getD []
  n := 16
  labelR l := (assoc [] l).getD 0
  loops := assoc [(2, cadastreref2_All_l2_s k)]
  labels := assoc []
  joins := assoc []
  xl i e := match e with
    | .nxt => assoc [] i
    | .ret => assoc [(2, ([2], []))] i
    | .exit j => (assoc [(2, [(0, ([], []))])] i).bind fun l => assoc l j
    | .goto j => (assoc [] i).bind fun l => assoc l j
noncomputable def cadastreref2_All_L : List Code := selI [2] (loopsOf cadastreref2_All_code)
noncomputable def cadastreref2_All_J : List Code := selI [] (joinsOf cadastreref2_All_code)
noncomputable def cadastreref2_All_S : List Code := scopesOf cadastreref2_All_code
theorem cadastreref2_All_l2_eq0 {ρ : Type} (k : Nat) (K : Ex → St UU → Option ρ) : ∀ (n : Nat) (v : (List S29) × Int), iterK UX (fun s => s.at (cadastreref2_All_cfg (ρ := ρ) k).live (cadastreref2_All_cfg (ρ := ρ) k).boxes (some 2)) (exec UX (cadastreref2_All_cfg k) (cadastreref2_All_G k) (cadastreref2_All_L.getD 0 .skip)) n ⟨[(0, .pv (.typ (.l29 v.1))), (3, .pv (.int .i64 v.2))], []⟩ (nrmK UX (cadastreref2_All_cfg k) 2 K) = cadastreref2_All_l2 k (fun t2 => K .ret ⟨[(2, .pv (.bool t2))], []⟩) (K (.exit 0) ⟨[], []⟩) n v.1 v.2 :=
  iter_rec (X := UX) (fun v => ⟨[(0, .pv (.typ (.l29 v.1))), (3, .pv (.int .i64 v.2))], []⟩) (fun rec v => cadastreref2_All_l2_b k (fun t2 => K .ret ⟨[(2, .pv (.bool t2))], []⟩) (K (.exit 0) ⟨[], []⟩) (fun l0 i3 => rec (l0, i3)) v.1 v.2) (fun n v => cadastreref2_All_l2 k (fun t2 => K .ret ⟨[(2, .pv (.bool t2))], []⟩) (K (.exit 0) ⟨[], []⟩) n v.1 v.2) (fun n v => by kernel_rfl) (fun _ => rfl) (fun _ _ => rfl)
theorem cadastreref2_All_l2_ok0 {ρ : Type} (k : Nat) : IterOK UX (cadastreref2_All_cfg (ρ := ρ) k) (cadastreref2_All_G k) (cadastreref2_All_L.getD 0 .skip) 2 (cadastreref2_All_l2_s k) := by
  intro s K r h
  obtain ⟨env, hp⟩ := s
  unfold cadastreref2_All_l2_s at h
  replace h := popS_inv h; obtain ⟨v1, e2, rfl, h⟩ := h
  replace h := as_l29_inv h; obtain ⟨l0, rfl, h⟩ := h
  replace h := popS_inv h; obtain ⟨v3, e4, rfl, h⟩ := h
  replace h := asI_inv h; obtain ⟨i3, rfl, h⟩ := h
  replace h := popN_inv h; obtain ⟨rfl, h⟩ := h
  replace h := popN_inv h; obtain ⟨rfl, h⟩ := h
  exact ⟨k, (cadastreref2_All_l2_eq0 k K k (l0, i3)).trans h⟩
theorem cadastreref2_All_cok {ρ : Type} (k : Nat) : COK (cadastreref2_All_cfg (ρ := ρ) k) (cadastreref2_All_G k) cadastreref2_All_code :=
  cok_of (tl := [(2, cadastreref2_All_l2_s k)]) (tj := []) (tb := []) rfl rfl rfl (all_nth 1 (by kernel_rfl) ⟨iter_case (by kernel_rfl) rfl (cadastreref2_All_l2_ok0 k), trivial⟩) (nil_all (by kernel_rfl)) (fun p hp => by cases hp)
noncomputable def cadastreref2_All_enc (r : Bool) : AV UU := .pv (.bool r)
noncomputable def cadastreref2_All_dec (v : AV UU) (_ : List (List (AV UU))) : Option Bool :=
asB v fun r0 =>
some r0
theorem cadastreref2_All_dec_enc (v : AV UU) (b : List (List (AV UU))) (r : Bool) (h : cadastreref2_All_dec v b = some r) : v = cadastreref2_All_enc r := by
  unfold cadastreref2_All_dec at h
  replace h := asB_inv h; obtain ⟨r0, rfl, h⟩ := h
  cases h
  rfl
theorem cadastreref2_All_eq (k : Nat) (l0 : List S29) : bodyK UX (cadastreref2_All_cfg k) (cadastreref2_All_G k) Tryd.f7 [.pv (.typ (.l29 l0))] [] cadastreref2_All_dec = cadastreref2_All k l0 := by kernel_rfl
theorem cadastreref2_All_con (k : Nat) (l0 : List S29) (r : Bool) (h : cadastreref2_All k l0 = some r) : Con (X := UX) Tryd.prog 7 [.pv (.typ (.l29 l0))] [] (cadastreref2_All_enc r) [] :=
  con_of_body xok tok Tryd.func7 cadastreref2_All_body (cadastreref2_All_gok k) rfl (cadastreref2_All_cok k) (of_decide_eq_true (by kernel_rfl)) cadastreref2_All_dec_enc ((cadastreref2_All_eq k l0).trans h)
noncomputable def cadastreref2_All_an {ρ : Type} (k : Nat) : An UX ρ := fun args bx K =>
popA args fun v1 a2 =>
as_l29 v1 fun l0 =>
popN a2 <|
popN bx <|
(cadastreref2_All k l0).bind fun r => K (cadastreref2_All_enc r) []
theorem cadastreref2_All_ok {ρ : Type} (k : Nat) : AnsOK Tryd.prog 7 (cadastreref2_All_an (ρ := ρ) k) := by
  intro args bx K r h
  unfold cadastreref2_All_an at h
  replace h := popA_inv h; obtain ⟨v1, a2, rfl, h⟩ := h
  replace h := as_l29_inv h; obtain ⟨l0, rfl, h⟩ := h
  replace h := popN_inv h; obtain ⟨rfl, h⟩ := h
  replace h := popN_inv h; obtain ⟨rfl, h⟩ := h
  replace h := bind_inv h
  obtain ⟨x, hx, h⟩ := h
  exact ⟨there_of Tryd.func7 (by kernel_rfl) cadastreref2_All_body, _, _, h, cadastreref2_All_con k l0 x hx⟩

/-! cadastre/cadastreref2.Int -/
noncomputable def cadastreref2_Int_code : Code := match Tryd.f15.body with | some c => c | none => .skip
theorem cadastreref2_Int_body : Tryd.f15.body = some cadastreref2_Int_code := by kernel_rfl
noncomputable def cadastreref2_Int_G {ρ : Type} (k : Nat) : Ans UX ρ := gnil
theorem cadastreref2_Int_gok {ρ : Type} (k : Nat) : GOK Tryd.prog (cadastreref2_Int_G (ρ := ρ) k) := gok_nil
noncomputable def cadastreref2_Int_cfg {ρ : Type} (k : Nat) : Cfg UX ρ where
  live i := (assoc [(0, [0]), (1, [0, 2])] i).getD []
  boxes i := (assoc [(0, []), (1, [2])] i).getD []
  tk i := (assoc [] i).getD []
  n := 5
  labelR l := (assoc [] l).getD 0
  loops := assoc []
  labels := assoc []
  joins := assoc []
  xl i e := match e with
    | .nxt => assoc [] i
    | .ret => assoc [] i
    | .exit j => (assoc [] i).bind fun l => assoc l j
    | .goto j => (assoc [] i).bind fun l => assoc l j
noncomputable def cadastreref2_Int_L : List Code := selI [] (loopsOf cadastreref2_Int_code)
noncomputable def cadastreref2_Int_J : List Code := selI [] (joinsOf cadastreref2_Int_code)
noncomputable def cadastreref2_Int_S : List Code := scopesOf cadastreref2_Int_code
theorem cadastreref2_Int_cok {ρ : Type} (k : Nat) : COK (cadastreref2_Int_cfg (ρ := ρ) k) (cadastreref2_Int_G k) cadastreref2_Int_code :=
  cok_of (tl := []) (tj := []) (tb := []) rfl rfl rfl (nil_all (by kernel_rfl)) (nil_all (by kernel_rfl)) (fun p hp => by cases hp)
noncomputable def cadastreref2_Int_enc (r : S29) : AV UU := .pv (.typ (.s29 r))
noncomputable def cadastreref2_Int_dec (v : AV UU) (_ : List (List (AV UU))) : Option S29 :=
as_s29 v fun r0 =>
some r0
theorem cadastreref2_Int_dec_enc (v : AV UU) (b : List (List (AV UU))) (r : S29) (h : cadastreref2_Int_dec v b = some r) : v = cadastreref2_Int_enc r := by
  unfold cadastreref2_Int_dec at h
  replace h := as_s29_inv h; obtain ⟨r0, rfl, h⟩ := h
  cases h
  rfl
theorem cadastreref2_Int_eq (k : Nat) (n0 : Int) : bodyK UX (cadastreref2_Int_cfg k) (cadastreref2_Int_G k) Tryd.f15 [.pv (.int .i64 n0)] [] cadastreref2_Int_dec = cadastreref2_Int k n0 := by kernel_rfl
theorem cadastreref2_Int_con (k : Nat) (n0 : Int) (r : S29) (h : cadastreref2_Int k n0 = some r) : Con (X := UX) Tryd.prog 15 [.pv (.int .i64 n0)] [] (cadastreref2_Int_enc r) [] :=
  con_of_body xok tok Tryd.func15 cadastreref2_Int_body (cadastreref2_Int_gok k) rfl (cadastreref2_Int_cok k) (of_decide_eq_true (by kernel_rfl)) cadastreref2_Int_dec_enc ((cadastreref2_Int_eq k n0).trans h)
noncomputable def cadastreref2_Int_an {ρ : Type} (k : Nat) : An UX ρ := fun args bx K =>
popA args fun v1 a2 =>
asI .i64 v1 fun n0 =>
popN a2 <|
popN bx <|
(cadastreref2_Int k n0).bind fun r => K (cadastreref2_Int_enc r) []
theorem cadastreref2_Int_ok {ρ : Type} (k : Nat) : AnsOK Tryd.prog 15 (cadastreref2_Int_an (ρ := ρ) k) := by
  intro args bx K r h
  unfold cadastreref2_Int_an at h
  replace h := popA_inv h; obtain ⟨v1, a2, rfl, h⟩ := h
  replace h := asI_inv h; obtain ⟨n0, rfl, h⟩ := h
  replace h := popN_inv h; obtain ⟨rfl, h⟩ := h
  replace h := popN_inv h; obtain ⟨rfl, h⟩ := h
  replace h := bind_inv h
  obtain ⟨x, hx, h⟩ := h
  exact ⟨there_of Tryd.func15 (by kernel_rfl) cadastreref2_Int_body, _, _, h, cadastreref2_Int_con k n0 x hx⟩
end Go.Proofs.YtjkgphpmdkbpfaaDoor.V
