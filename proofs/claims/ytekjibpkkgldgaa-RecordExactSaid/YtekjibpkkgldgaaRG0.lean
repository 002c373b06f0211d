/-
  What the program's functions answer: the printed functions' answers.
-/
import Derived.Test.YtekjibpkkgldgaaRU
namespace Go.Proofs.Ytekjibpkkgldgaa.R
open Go Go.AX
/-! cadastre/cadastrelaw0.Light -/
noncomputable def cadastrelaw0_Light_code : Code := match Try.f52.body with | some c => c | none => .skip
theorem cadastrelaw0_Light_body : Try.f52.body = some cadastrelaw0_Light_code := by kernel_rfl
noncomputable def cadastrelaw0_Light_G {ρ : Type} (k : Nat) : Ans UX ρ := gnil
theorem cadastrelaw0_Light_gok {ρ : Type} (k : Nat) : GOK Try.prog (cadastrelaw0_Light_G (ρ := ρ) k) := gok_nil
noncomputable def cadastrelaw0_Light_l5_s {ρ : Type} (k : Nat) : Run UX ρ := fun s K =>
popS 0 s.env fun v1 e2 =>
as_l44 v1 fun l0 =>
popS 1 e2 fun v3 e4 =>
asI .i64 v3 fun most1 =>
popS 5 e4 fun v5 e6 =>
asI .i64 v5 fun n5 =>
popS 6 e6 fun v7 e8 =>
asI .i64 v7 fun i6 =>
popN e8 <|
popN s.hp <|
cadastrelaw0_Light_l5 k (fun most1 n5 => K (.exit 0) ⟨[(1, .pv (.int .i64 most1)), (5, .pv (.int .i64 n5))], []⟩) k l0 most1 n5 i6
noncomputable def cadastrelaw0_Light_cfg {ρ : Type} (k : Nat) : Cfg UX ρ where
  live i := (assoc [(0, [0, 1]), (1, [0, 1]), (2, []), (3, [0, 1]), (4, [0, 1, 5]), (5, [0, 1, 5, 6]), (6, [0, 1, 5, 6]), (7, [0, 1, 5, 6]), (8, [1, 5])] i).getD []
  boxes i := (assoc [(0, []), (1, []), (2, []), (3, []), (4, []), (5, []), (6, []), (7, []), (8, [])] i).getD []
  tk i := (assoc [] i).getD []
  n := 27
  labelR l := (assoc [] l).getD 0
  loops := assoc [(5, cadastrelaw0_Light_l5_s k)]
  labels := assoc []
  joins := assoc []
  xl i e := match e with
    | .nxt => assoc [] i
    | .ret => assoc [] i
    | .exit j => (assoc [(5, [(0, ([1, 5], []))])] i).bind fun l => assoc l j
    | .goto j => (assoc [] i).bind fun l => assoc l j
noncomputable def cadastrelaw0_Light_L : List Code := selI [5] (loopsOf cadastrelaw0_Light_code)
noncomputable def cadastrelaw0_Light_J : List Code := selI [] (joinsOf cadastrelaw0_Light_code)
noncomputable def cadastrelaw0_Light_S : List Code := scopesOf cadastrelaw0_Light_code
theorem cadastrelaw0_Light_l5_eq0 {ρ : Type} (k : Nat) (K : Ex → St UU → Option ρ) : ∀ (n : Nat) (v : (List S44) × Int × Int × Int), iterK UX (fun s => s.at (cadastrelaw0_Light_cfg (ρ := ρ) k).live (cadastrelaw0_Light_cfg (ρ := ρ) k).boxes (some 5)) (exec UX (cadastrelaw0_Light_cfg k) (cadastrelaw0_Light_G k) (cadastrelaw0_Light_L.getD 0 .skip)) n ⟨[(0, .pv (.typ (.l44 v.1))), (1, .pv (.int .i64 v.2.1)), (5, .pv (.int .i64 v.2.2.1)), (6, .pv (.int .i64 v.2.2.2))], []⟩ (nrmK UX (cadastrelaw0_Light_cfg k) 5 K) = cadastrelaw0_Light_l5 k (fun most1 n5 => K (.exit 0) ⟨[(1, .pv (.int .i64 most1)), (5, .pv (.int .i64 n5))], []⟩) n v.1 v.2.1 v.2.2.1 v.2.2.2 :=
  iter_rec (X := UX) (fun v => ⟨[(0, .pv (.typ (.l44 v.1))), (1, .pv (.int .i64 v.2.1)), (5, .pv (.int .i64 v.2.2.1)), (6, .pv (.int .i64 v.2.2.2))], []⟩) (fun rec v => cadastrelaw0_Light_l5_b k (fun most1 n5 => K (.exit 0) ⟨[(1, .pv (.int .i64 most1)), (5, .pv (.int .i64 n5))], []⟩) (fun l0 most1 n5 i6 => rec (l0, most1, n5, i6)) v.1 v.2.1 v.2.2.1 v.2.2.2) (fun n v => cadastrelaw0_Light_l5 k (fun most1 n5 => K (.exit 0) ⟨[(1, .pv (.int .i64 most1)), (5, .pv (.int .i64 n5))], []⟩) n v.1 v.2.1 v.2.2.1 v.2.2.2) (fun n v => by kernel_rfl) (fun _ => rfl) (fun _ _ => rfl)
theorem cadastrelaw0_Light_l5_ok0 {ρ : Type} (k : Nat) : IterOK UX (cadastrelaw0_Light_cfg (ρ := ρ) k) (cadastrelaw0_Light_G k) (cadastrelaw0_Light_L.getD 0 .skip) 5 (cadastrelaw0_Light_l5_s k) := by
  intro s K r h
  obtain ⟨env, hp⟩ := s
  unfold cadastrelaw0_Light_l5_s at h
  replace h := popS_inv h; obtain ⟨v1, e2, rfl, h⟩ := h
  replace h := as_l44_inv h; obtain ⟨l0, rfl, h⟩ := h
  replace h := popS_inv h; obtain ⟨v3, e4, rfl, h⟩ := h
  replace h := asI_inv h; obtain ⟨most1, rfl, h⟩ := h
  replace h := popS_inv h; obtain ⟨v5, e6, rfl, h⟩ := h
  replace h := asI_inv h; obtain ⟨n5, rfl, h⟩ := h
  replace h := popS_inv h; obtain ⟨v7, e8, rfl, h⟩ := h
  replace h := asI_inv h; obtain ⟨i6, rfl, h⟩ := h
  replace h := popN_inv h; obtain ⟨rfl, h⟩ := h
  replace h := popN_inv h; obtain ⟨rfl, h⟩ := h
  exact ⟨k, (cadastrelaw0_Light_l5_eq0 k K k (l0, most1, n5, i6)).trans h⟩
theorem cadastrelaw0_Light_cok {ρ : Type} (k : Nat) : COK (cadastrelaw0_Light_cfg (ρ := ρ) k) (cadastrelaw0_Light_G k) cadastrelaw0_Light_code :=
  cok_of (tl := [(5, cadastrelaw0_Light_l5_s k)]) (tj := []) (tb := []) rfl rfl rfl (all_nth 1 (by kernel_rfl) ⟨iter_case (by kernel_rfl) rfl (cadastrelaw0_Light_l5_ok0 k), trivial⟩) (nil_all (by kernel_rfl)) (fun p hp => by cases hp)
noncomputable def cadastrelaw0_Light_enc (r : Bool) : AV UU := .pv (.bool r)
noncomputable def cadastrelaw0_Light_dec (v : AV UU) (_ : List (List (AV UU))) : Option Bool :=
asB v fun r0 =>
some r0
theorem cadastrelaw0_Light_dec_enc (v : AV UU) (b : List (List (AV UU))) (r : Bool) (h : cadastrelaw0_Light_dec v b = some r) : v = cadastrelaw0_Light_enc r := by
  unfold cadastrelaw0_Light_dec at h
  replace h := asB_inv h; obtain ⟨r0, rfl, h⟩ := h
  cases h
  rfl
theorem cadastrelaw0_Light_eq (k : Nat) (l0 : List S44) (most1 : Int) : bodyK UX (cadastrelaw0_Light_cfg k) (cadastrelaw0_Light_G k) Try.f52 [.pv (.typ (.l44 l0)), .pv (.int .i64 most1)] [] cadastrelaw0_Light_dec = cadastrelaw0_Light k l0 most1 := by kernel_rfl
theorem cadastrelaw0_Light_con (k : Nat) (l0 : List S44) (most1 : Int) (r : Bool) (h : cadastrelaw0_Light k l0 most1 = some r) : Con (X := UX) Try.prog 52 [.pv (.typ (.l44 l0)), .pv (.int .i64 most1)] [] (cadastrelaw0_Light_enc r) [] :=
  con_of_body xok tok Try.func52 cadastrelaw0_Light_body (cadastrelaw0_Light_gok k) rfl (cadastrelaw0_Light_cok k) (of_decide_eq_true (by kernel_rfl)) cadastrelaw0_Light_dec_enc ((cadastrelaw0_Light_eq k l0 most1).trans h)
noncomputable def cadastrelaw0_Light_an {ρ : Type} (k : Nat) : An UX ρ := fun args bx K =>
popA args fun v1 a2 =>
as_l44 v1 fun l0 =>
popA a2 fun v3 a4 =>
asI .i64 v3 fun most1 =>
popN a4 <|
popN bx <|
(cadastrelaw0_Light k l0 most1).bind fun r => K (cadastrelaw0_Light_enc r) []
theorem cadastrelaw0_Light_ok {ρ : Type} (k : Nat) : AnsOK Try.prog 52 (cadastrelaw0_Light_an (ρ := ρ) k) := by
  intro args bx K r h
  unfold cadastrelaw0_Light_an at h
  replace h := popA_inv h; obtain ⟨v1, a2, rfl, h⟩ := h
  replace h := as_l44_inv h; obtain ⟨l0, rfl, h⟩ := h
  replace h := popA_inv h; obtain ⟨v3, a4, rfl, h⟩ := h
  replace h := asI_inv h; obtain ⟨most1, rfl, h⟩ := h
  replace h := popN_inv h; obtain ⟨rfl, h⟩ := h
  replace h := popN_inv h; obtain ⟨rfl, h⟩ := h
  replace h := bind_inv h
  obtain ⟨x, hx, h⟩ := h
  exact ⟨there_of Try.func52 (by kernel_rfl) cadastrelaw0_Light_body, _, _, h, cadastrelaw0_Light_con k l0 most1 x hx⟩

/-! cadastre/cadastrelaw6.heavy -/
noncomputable def cadastrelaw6_heavy_code : Code := match Try.f20.body with | some c => c | none => .skip
theorem cadastrelaw6_heavy_body : Try.f20.body = some cadastrelaw6_heavy_code := by kernel_rfl
noncomputable def cadastrelaw6_heavy_G {ρ : Type} (k : Nat) : Ans UX ρ := gk 52 (cadastrelaw0_Light_an k) (gnil)
theorem cadastrelaw6_heavy_gok {ρ : Type} (k : Nat) : GOK Try.prog (cadastrelaw6_heavy_G (ρ := ρ) k) := gok_cons (cadastrelaw0_Light_ok k) (gok_nil)
noncomputable def cadastrelaw6_heavy_cfg {ρ : Type} (k : Nat) : Cfg UX ρ where
  live i := (assoc [(0, [0]), (1, [1])] i).getD []
  boxes i := (assoc [(0, []), (1, [1])] i).getD []
  tk i := (assoc [] i).getD []
  n := 13
  labelR l := (assoc [] l).getD 0
  loops := assoc []
  labels := assoc []
  joins := assoc []
  xl i e := match e with
    | .nxt => assoc [] i
    | .ret => assoc [] i
    | .exit j => (assoc [] i).bind fun l => assoc l j
    | .goto j => (assoc [] i).bind fun l => assoc l j
noncomputable def cadastrelaw6_heavy_L : List Code := selI [] (loopsOf cadastrelaw6_heavy_code)
noncomputable def cadastrelaw6_heavy_J : List Code := selI [] (joinsOf cadastrelaw6_heavy_code)
noncomputable def cadastrelaw6_heavy_S : List Code := scopesOf cadastrelaw6_heavy_code
theorem cadastrelaw6_heavy_cok {ρ : Type} (k : Nat) : COK (cadastrelaw6_heavy_cfg (ρ := ρ) k) (cadastrelaw6_heavy_G k) cadastrelaw6_heavy_code :=
  cok_of (tl := []) (tj := []) (tb := []) rfl rfl rfl (nil_all (by kernel_rfl)) (nil_all (by kernel_rfl)) (fun p hp => by cases hp)
noncomputable def cadastrelaw6_heavy_enc (r : Bool) : AV UU := .pv (.bool r)
noncomputable def cadastrelaw6_heavy_dec (v : AV UU) (_ : List (List (AV UU))) : Option Bool :=
asB v fun r0 =>
some r0
theorem cadastrelaw6_heavy_dec_enc (v : AV UU) (b : List (List (AV UU))) (r : Bool) (h : cadastrelaw6_heavy_dec v b = some r) : v = cadastrelaw6_heavy_enc r := by
  unfold cadastrelaw6_heavy_dec at h
  replace h := asB_inv h; obtain ⟨r0, rfl, h⟩ := h
  cases h
  rfl
theorem cadastrelaw6_heavy_eq (k : Nat) (p0 : S34) : bodyK UX (cadastrelaw6_heavy_cfg k) (cadastrelaw6_heavy_G k) Try.f20 [.pv (.typ (.s34 p0))] [] cadastrelaw6_heavy_dec = cadastrelaw6_heavy k p0 := by kernel_rfl
theorem cadastrelaw6_heavy_con (k : Nat) (p0 : S34) (r : Bool) (h : cadastrelaw6_heavy k p0 = some r) : Con (X := UX) Try.prog 20 [.pv (.typ (.s34 p0))] [] (cadastrelaw6_heavy_enc r) [] :=
  con_of_body xok tok Try.func20 cadastrelaw6_heavy_body (cadastrelaw6_heavy_gok k) rfl (cadastrelaw6_heavy_cok k) (of_decide_eq_true (by kernel_rfl)) cadastrelaw6_heavy_dec_enc ((cadastrelaw6_heavy_eq k p0).trans h)
noncomputable def cadastrelaw6_heavy_an {ρ : Type} (k : Nat) : An UX ρ := fun args bx K =>
popA args fun v1 a2 =>
as_s34 v1 fun p0 =>
popN a2 <|
popN bx <|
(cadastrelaw6_heavy k p0).bind fun r => K (cadastrelaw6_heavy_enc r) []
theorem cadastrelaw6_heavy_ok {ρ : Type} (k : Nat) : AnsOK Try.prog 20 (cadastrelaw6_heavy_an (ρ := ρ) k) := by
  intro args bx K r h
  unfold cadastrelaw6_heavy_an at h
  replace h := popA_inv h; obtain ⟨v1, a2, rfl, h⟩ := h
  replace h := as_s34_inv h; obtain ⟨p0, rfl, h⟩ := h
  replace h := popN_inv h; obtain ⟨rfl, h⟩ := h
  replace h := popN_inv h; obtain ⟨rfl, h⟩ := h
  replace h := bind_inv h
  obtain ⟨x, hx, h⟩ := h
  exact ⟨there_of Try.func20 (by kernel_rfl) cadastrelaw6_heavy_body, _, _, h, cadastrelaw6_heavy_con k p0 x hx⟩

/-! cadastre/cadastreref2.May -/
noncomputable def cadastreref2_May_code : Code := match Try.f26.body with | some c => c | none => .skip
theorem cadastreref2_May_body : Try.f26.body = some cadastreref2_May_code := by kernel_rfl
noncomputable def cadastreref2_May_G {ρ : Type} (k : Nat) : Ans UX ρ := gnil
theorem cadastreref2_May_gok {ρ : Type} (k : Nat) : GOK Try.prog (cadastreref2_May_G (ρ := ρ) k) := gok_nil
noncomputable def cadastreref2_May_j8_s {ρ : Type} (k : Nat) : Run UX ρ := fun s K =>
popS 1 s.env fun v1 e2 =>
asP 1 0 v1 <|
popN e2 <|
popB 1 s.hp fun c3 e4 =>
popA c3 fun v5 c6 =>
asI .i64 v5 fun z7 =>
popA c6 fun v8 c9 =>
asI .i64 v8 fun z10 =>
popA c9 fun v11 c12 =>
asS v11 fun z13 =>
popN c12 <|
popN e4 <|
cadastreref2_May_j8 k (fun t2 => K .ret ⟨[(2, .pv (.bool t2))], []⟩) (⟨z7, z10, z13⟩ : S44)
noncomputable def cadastreref2_May_cfg {ρ : Type} (k : Nat) : Cfg UX ρ where
  live i := (assoc [(0, [0]), (1, [1]), (2, [1, 4]), (3, [1]), (4, [1, 4]), (5, [1]), (6, [1, 4]), (7, [1, 4]), (8, [1]), (9, [])] i).getD []
  boxes i := (assoc [(0, []), (1, [1]), (2, [1]), (3, [1]), (4, [1]), (5, [1]), (6, [1]), (7, [1]), (8, [1]), (9, [])] i).getD []
  tk i := (assoc [] i).getD []
  n := 27
  labelR l := (assoc [] l).getD 0
  loops := assoc []
  labels := assoc []
  joins := assoc [(8, cadastreref2_May_j8_s k)]
  xl i e := match e with
    | .nxt => assoc [] i
    | .ret => assoc [(8, ([2], []))] i
    | .exit j => (assoc [] i).bind fun l => assoc l j
    | .goto j => (assoc [] i).bind fun l => assoc l j
noncomputable def cadastreref2_May_L : List Code := selI [] (loopsOf cadastreref2_May_code)
noncomputable def cadastreref2_May_J : List Code := selI [8] (joinsOf cadastreref2_May_code)
noncomputable def cadastreref2_May_S : List Code := scopesOf cadastreref2_May_code
theorem cadastreref2_May_j8_eq0 {ρ : Type} (k : Nat) (K : Ex → St UU → Option ρ) (v1 : S44) : exec UX (cadastreref2_May_cfg k) (cadastreref2_May_G k) (cadastreref2_May_J.getD 0 .skip) ⟨[(1, .ptr 1 0)], [(1, [.pv (.int .i64 v1.f0), .pv (.int .i64 v1.f1), .pv (.str v1.f2)])]⟩ (nrmK UX (cadastreref2_May_cfg k) 8 K) = cadastreref2_May_j8 k (fun t2 => K .ret ⟨[(2, .pv (.bool t2))], []⟩) v1 := by kernel_rfl
theorem cadastreref2_May_j8_ok0 {ρ : Type} (k : Nat) : JoinOK UX (cadastreref2_May_cfg (ρ := ρ) k) (cadastreref2_May_G k) (cadastreref2_May_J.getD 0 .skip) 8 (cadastreref2_May_j8_s k) := by
  intro s K r h
  obtain ⟨env, hp⟩ := s
  unfold cadastreref2_May_j8_s at h
  replace h := popS_inv h; obtain ⟨v1, e2, rfl, h⟩ := h
  replace h := asP_inv h; obtain ⟨rfl, h⟩ := h
  replace h := popN_inv h; obtain ⟨rfl, h⟩ := h
  replace h := popB_inv h; obtain ⟨c3, e4, rfl, h⟩ := h
  replace h := popA_inv h; obtain ⟨v5, c6, rfl, h⟩ := h
  replace h := asI_inv h; obtain ⟨z7, rfl, h⟩ := h
  replace h := popA_inv h; obtain ⟨v8, c9, rfl, h⟩ := h
  replace h := asI_inv h; obtain ⟨z10, rfl, h⟩ := h
  replace h := popA_inv h; obtain ⟨v11, c12, rfl, h⟩ := h
  replace h := asS_inv h; obtain ⟨z13, rfl, h⟩ := h
  replace h := popN_inv h; obtain ⟨rfl, h⟩ := h
  replace h := popN_inv h; obtain ⟨rfl, h⟩ := h
  exact (cadastreref2_May_j8_eq0 k K (⟨z7, z10, z13⟩ : S44)).trans h
theorem cadastreref2_May_cok {ρ : Type} (k : Nat) : COK (cadastreref2_May_cfg (ρ := ρ) k) (cadastreref2_May_G k) cadastreref2_May_code :=
  cok_of (tl := []) (tj := [(8, cadastreref2_May_j8_s k)]) (tb := []) rfl rfl rfl (nil_all (by kernel_rfl)) (all_nth 1 (by kernel_rfl) ⟨join_case (by kernel_rfl) rfl (cadastreref2_May_j8_ok0 k), trivial⟩) (fun p hp => by cases hp)
noncomputable def cadastreref2_May_enc (r : Bool) : AV UU := .pv (.bool r)
noncomputable def cadastreref2_May_dec (v : AV UU) (_ : List (List (AV UU))) : Option Bool :=
asB v fun r0 =>
some r0
theorem cadastreref2_May_dec_enc (v : AV UU) (b : List (List (AV UU))) (r : Bool) (h : cadastreref2_May_dec v b = some r) : v = cadastreref2_May_enc r := by
  unfold cadastreref2_May_dec at h
  replace h := asB_inv h; obtain ⟨r0, rfl, h⟩ := h
  cases h
  rfl
theorem cadastreref2_May_eq (k : Nat) (v0 : S44) : bodyK UX (cadastreref2_May_cfg k) (cadastreref2_May_G k) Try.f26 [.pv (.typ (.s44 v0))] [] cadastreref2_May_dec = cadastreref2_May k v0 := by kernel_rfl
theorem cadastreref2_May_con (k : Nat) (v0 : S44) (r : Bool) (h : cadastreref2_May k v0 = some r) : Con (X := UX) Try.prog 26 [.pv (.typ (.s44 v0))] [] (cadastreref2_May_enc r) [] :=
  con_of_body xok tok Try.func26 cadastreref2_May_body (cadastreref2_May_gok k) rfl (cadastreref2_May_cok k) (of_decide_eq_true (by kernel_rfl)) cadastreref2_May_dec_enc ((cadastreref2_May_eq k v0).trans h)
noncomputable def cadastreref2_May_an {ρ : Type} (k : Nat) : An UX ρ := fun args bx K =>
popA args fun v1 a2 =>
as_s44 v1 fun v0 =>
popN a2 <|
popN bx <|
(cadastreref2_May k v0).bind fun r => K (cadastreref2_May_enc r) []
theorem cadastreref2_May_ok {ρ : Type} (k : Nat) : AnsOK Try.prog 26 (cadastreref2_May_an (ρ := ρ) k) := by
  intro args bx K r h
  unfold cadastreref2_May_an at h
  replace h := popA_inv h; obtain ⟨v1, a2, rfl, h⟩ := h
  replace h := as_s44_inv h; obtain ⟨v0, rfl, h⟩ := h
  replace h := popN_inv h; obtain ⟨rfl, h⟩ := h
  replace h := popN_inv h; obtain ⟨rfl, h⟩ := h
  replace h := bind_inv h
  obtain ⟨x, hx, h⟩ := h
  exact ⟨there_of Try.func26 (by kernel_rfl) cadastreref2_May_body, _, _, h, cadastreref2_May_con k v0 x hx⟩

/-! cadastre/cadastreref2.All -/
noncomputable def cadastreref2_All_code : Code := match Try.f49.body with | some c => c | none => .skip
theorem cadastreref2_All_body : Try.f49.body = some cadastreref2_All_code := by kernel_rfl
noncomputable def cadastreref2_All_G {ρ : Type} (k : Nat) : Ans UX ρ := gk 26 (cadastreref2_May_an k) (gnil)
theorem cadastreref2_All_gok {ρ : Type} (k : Nat) : GOK Try.prog (cadastreref2_All_G (ρ := ρ) k) := gok_cons (cadastreref2_May_ok k) (gok_nil)
noncomputable def cadastreref2_All_l2_s {ρ : Type} (k : Nat) : Run UX ρ := fun s K =>
popS 0 s.env fun v1 e2 =>
as_l44 v1 fun l0 =>
popS 3 e2 fun v3 e4 =>
asI .i64 v3 fun i3 =>
popN e4 <|
popN s.hp <|
cadastreref2_All_l2 k (fun t2 => K .ret ⟨[(2, .pv (.bool t2))], []⟩) (K (.exit 0) ⟨[], []⟩) k l0 i3
noncomputable def cadastreref2_All_cfg {ρ : Type} (k : Nat) : Cfg UX ρ where
  live i := (assoc [(0, [0]), (1, [0]), (2, [0, 3]), (3, [0, 3]), (4, [0, 3]), (5, []), (6, [])] i).getD []
  boxes i := (assoc [(0, []), (1, []), (2, []), (3, []), (4, []), (5, []), (6, [])] i).getD []
  tk i := (assoc [] i).getD []
  n := 16
  labelR l := (assoc [] l).getD 0
  loops := assoc [(2, cadastreref2_All_l2_s k)]
  labels := assoc []
  joins := assoc []
  xl i e := match e with
    | .nxt => assoc [] i
    | .ret => assoc [(2, ([2], []))] i
    | .exit j => (assoc [(2, [(0, ([], []))])] i).bind fun l => assoc l j
    | .goto j => (assoc [] i).bind fun l => assoc l j
noncomputable def cadastreref2_All_L : List Code := selI [2] (loopsOf cadastreref2_All_code)
noncomputable def cadastreref2_All_J : List Code := selI [] (joinsOf cadastreref2_All_code)
noncomputable def cadastreref2_All_S : List Code := scopesOf cadastreref2_All_code
theorem cadastreref2_All_l2_eq0 {ρ : Type} (k : Nat) (K : Ex → St UU → Option ρ) : ∀ (n : Nat) (v : (List S44) × Int), iterK UX (fun s => s.at (cadastreref2_All_cfg (ρ := ρ) k).live (cadastreref2_All_cfg (ρ := ρ) k).boxes (some 2)) (exec UX (cadastreref2_All_cfg k) (cadastreref2_All_G k) (cadastreref2_All_L.getD 0 .skip)) n ⟨[(0, .pv (.typ (.l44 v.1))), (3, .pv (.int .i64 v.2))], []⟩ (nrmK UX (cadastreref2_All_cfg k) 2 K) = cadastreref2_All_l2 k (fun t2 => K .ret ⟨[(2, .pv (.bool t2))], []⟩) (K (.exit 0) ⟨[], []⟩) n v.1 v.2 :=
  iter_rec (X := UX) (fun v => ⟨[(0, .pv (.typ (.l44 v.1))), (3, .pv (.int .i64 v.2))], []⟩) (fun rec v => cadastreref2_All_l2_b k (fun t2 => K .ret ⟨[(2, .pv (.bool t2))], []⟩) (K (.exit 0) ⟨[], []⟩) (fun l0 i3 => rec (l0, i3)) v.1 v.2) (fun n v => cadastreref2_All_l2 k (fun t2 => K .ret ⟨[(2, .pv (.bool t2))], []⟩) (K (.exit 0) ⟨[], []⟩) n v.1 v.2) (fun n v => by kernel_rfl) (fun _ => rfl) (fun _ _ => rfl)
theorem cadastreref2_All_l2_ok0 {ρ : Type} (k : Nat) : IterOK UX (cadastreref2_All_cfg (ρ := ρ) k) (cadastreref2_All_G k) (cadastreref2_All_L.getD 0 .skip) 2 (cadastreref2_All_l2_s k) := by
  intro s K r h
  obtain ⟨env, hp⟩ := s
  unfold cadastreref2_All_l2_s at h
  replace h := popS_inv h; obtain ⟨v1, e2, rfl, h⟩ := h
  replace h := as_l44_inv h; obtain ⟨l0, rfl, h⟩ := h
  replace h := popS_inv h; obtain ⟨v3, e4, rfl, h⟩ := h
  replace h := asI_inv h; obtain ⟨i3, rfl, h⟩ := h
  replace h := popN_inv h; obtain ⟨rfl, h⟩ := h
  replace h := popN_inv h; obtain ⟨rfl, h⟩ := h
  exact ⟨k, (cadastreref2_All_l2_eq0 k K k (l0, i3)).trans h⟩
theorem cadastreref2_All_cok {ρ : Type} (k : Nat) : COK (cadastreref2_All_cfg (ρ := ρ) k) (cadastreref2_All_G k) cadastreref2_All_code :=
  cok_of (tl := [(2, cadastreref2_All_l2_s k)]) (tj := []) (tb := []) rfl rfl rfl (all_nth 1 (by kernel_rfl) ⟨iter_case (by kernel_rfl) rfl (cadastreref2_All_l2_ok0 k), trivial⟩) (nil_all (by kernel_rfl)) (fun p hp => by cases hp)
noncomputable def cadastreref2_All_enc (r : Bool) : AV UU := .pv (.bool r)
noncomputable def cadastreref2_All_dec (v : AV UU) (_ : List (List (AV UU))) : Option Bool :=
asB v fun r0 =>
some r0
theorem cadastreref2_All_dec_enc (v : AV UU) (b : List (List (AV UU))) (r : Bool) (h : cadastreref2_All_dec v b = some r) : v = cadastreref2_All_enc r := by
  unfold cadastreref2_All_dec at h
  replace h := asB_inv h; obtain ⟨r0, rfl, h⟩ := h
  cases h
  rfl
theorem cadastreref2_All_eq (k : Nat) (l0 : List S44) : bodyK UX (cadastreref2_All_cfg k) (cadastreref2_All_G k) Try.f49 [.pv (.typ (.l44 l0))] [] cadastreref2_All_dec = cadastreref2_All k l0 := by kernel_rfl
theorem cadastreref2_All_con (k : Nat) (l0 : List S44) (r : Bool) (h : cadastreref2_All k l0 = some r) : Con (X := UX) Try.prog 49 [.pv (.typ (.l44 l0))] [] (cadastreref2_All_enc r) [] :=
  con_of_body xok tok Try.func49 cadastreref2_All_body (cadastreref2_All_gok k) rfl (cadastreref2_All_cok k) (of_decide_eq_true (by kernel_rfl)) cadastreref2_All_dec_enc ((cadastreref2_All_eq k l0).trans h)
noncomputable def cadastreref2_All_an {ρ : Type} (k : Nat) : An UX ρ := fun args bx K =>
popA args fun v1 a2 =>
as_l44 v1 fun l0 =>
popN a2 <|
popN bx <|
(cadastreref2_All k l0).bind fun r => K (cadastreref2_All_enc r) []
theorem cadastreref2_All_ok {ρ : Type} (k : Nat) : AnsOK Try.prog 49 (cadastreref2_All_an (ρ := ρ) k) := by
  intro args bx K r h
  unfold cadastreref2_All_an at h
  replace h := popA_inv h; obtain ⟨v1, a2, rfl, h⟩ := h
  replace h := as_l44_inv h; obtain ⟨l0, rfl, h⟩ := h
  replace h := popN_inv h; obtain ⟨rfl, h⟩ := h
  replace h := popN_inv h; obtain ⟨rfl, h⟩ := h
  replace h := bind_inv h
  obtain ⟨x, hx, h⟩ := h
  exact ⟨there_of Try.func49 (by kernel_rfl) cadastreref2_All_body, _, _, h, cadastreref2_All_con k l0 x hx⟩

/-! cadastre/cadastreref1.Put -/
noncomputable def cadastreref1_Put_code : Code := match Try.f51.body with | some c => c | none => .skip
theorem cadastreref1_Put_body : Try.f51.body = some cadastreref1_Put_code := by kernel_rfl
noncomputable def cadastreref1_Put_G {ρ : Type} (k : Nat) : Ans UX ρ := gnil
theorem cadastreref1_Put_gok {ρ : Type} (k : Nat) : GOK Try.prog (cadastreref1_Put_G (ρ := ρ) k) := gok_nil
noncomputable def cadastreref1_Put_l5_s {ρ : Type} (k : Nat) : Run UX ρ := fun s K =>
popS 0 s.env fun v1 e2 =>
asI .u64 v1 fun n0 =>
popS 3 e2 fun v3 e4 =>
asO_li_u8 v3 fun b3 =>
popS 4 e4 fun v5 e6 =>
asI .i64 v5 fun i4 =>
popN e6 <|
popN s.hp <|
cadastreref1_Put_l5 k (fun b3 => K (.exit 0) ⟨[(3, .own (.li_u8 b3))], []⟩) k n0 b3 i4
noncomputable def cadastreref1_Put_l12_s {ρ : Type} (k : Nat) : Run UX ρ := fun s K =>
popS 0 s.env fun v1 e2 =>
asI .u64 v1 fun n0 =>
popS 5 e2 fun v3 e4 =>
asO_li_u8 v3 fun b5 =>
popN e4 <|
popN s.hp <|
cadastreref1_Put_l12 k (fun b5 => K (.exit 2) ⟨[(5, .own (.li_u8 b5))], []⟩) k n0 b5
noncomputable def cadastreref1_Put_cfg {ρ : Type} (k : Nat) : Cfg UX ρ where
  live i := (assoc [(0, [0]), (1, [0]), (2, [0]), (3, [0, 3]), (4, [0, 3]), (5, [0, 3, 4]), (6, [0, 3, 4]), (7, [0, 3, 4]), (8, [0, 3, 4]), (9, [3]), (10, [0]), (11, [0, 5]), (12, [0, 5]), (13, [0, 5]), (14, [0, 5]), (15, [5])] i).getD []
  boxes i := (assoc [(0, []), (1, []), (2, []), (3, []), (4, []), (5, []), (6, []), (7, []), (8, []), (9, []), (10, []), (11, []), (12, []), (13, []), (14, []), (15, [])] i).getD []
  tk i := (assoc [(1000000, [2])] i).getD []
  n := 45
  labelR l := (assoc [] l).getD 0
  loops := assoc [(5, cadastreref1_Put_l5_s k), (12, cadastreref1_Put_l12_s k)]
  labels := assoc []
  joins := assoc []
  xl i e := match e with
    | .nxt => assoc [] i
    | .ret => assoc [] i
    | .exit j => (assoc [(5, [(0, ([3], []))]), (12, [(2, ([5], []))])] i).bind fun l => assoc l j
    | .goto j => (assoc [] i).bind fun l => assoc l j
noncomputable def cadastreref1_Put_L : List Code := selI [5, 12] (loopsOf cadastreref1_Put_code)
noncomputable def cadastreref1_Put_J : List Code := selI [] (joinsOf cadastreref1_Put_code)
noncomputable def cadastreref1_Put_S : List Code := scopesOf cadastreref1_Put_code
theorem cadastreref1_Put_l5_eq0 {ρ : Type} (k : Nat) (K : Ex → St UU → Option ρ) : ∀ (n : Nat) (v : Int × (List Int) × Int), iterK UX (fun s => s.at (cadastreref1_Put_cfg (ρ := ρ) k).live (cadastreref1_Put_cfg (ρ := ρ) k).boxes (some 5)) (exec UX (cadastreref1_Put_cfg k) (cadastreref1_Put_G k) (cadastreref1_Put_L.getD 0 .skip)) n ⟨[(0, .pv (.int .u64 v.1)), (3, .own (.li_u8 v.2.1)), (4, .pv (.int .i64 v.2.2))], []⟩ (nrmK UX (cadastreref1_Put_cfg k) 5 K) = cadastreref1_Put_l5 k (fun b3 => K (.exit 0) ⟨[(3, .own (.li_u8 b3))], []⟩) n v.1 v.2.1 v.2.2 :=
  iter_rec (X := UX) (fun v => ⟨[(0, .pv (.int .u64 v.1)), (3, .own (.li_u8 v.2.1)), (4, .pv (.int .i64 v.2.2))], []⟩) (fun rec v => cadastreref1_Put_l5_b k (fun b3 => K (.exit 0) ⟨[(3, .own (.li_u8 b3))], []⟩) (fun n0 b3 i4 => rec (n0, b3, i4)) v.1 v.2.1 v.2.2) (fun n v => cadastreref1_Put_l5 k (fun b3 => K (.exit 0) ⟨[(3, .own (.li_u8 b3))], []⟩) n v.1 v.2.1 v.2.2) (fun n v => by kernel_rfl) (fun _ => rfl) (fun _ _ => rfl)
theorem cadastreref1_Put_l5_ok0 {ρ : Type} (k : Nat) : IterOK UX (cadastreref1_Put_cfg (ρ := ρ) k) (cadastreref1_Put_G k) (cadastreref1_Put_L.getD 0 .skip) 5 (cadastreref1_Put_l5_s k) := by
  intro s K r h
  obtain ⟨env, hp⟩ := s
  unfold cadastreref1_Put_l5_s at h
  replace h := popS_inv h; obtain ⟨v1, e2, rfl, h⟩ := h
  replace h := asI_inv h; obtain ⟨n0, rfl, h⟩ := h
  replace h := popS_inv h; obtain ⟨v3, e4, rfl, h⟩ := h
  replace h := asO_li_u8_inv h; obtain ⟨b3, rfl, h⟩ := h
  replace h := popS_inv h; obtain ⟨v5, e6, rfl, h⟩ := h
  replace h := asI_inv h; obtain ⟨i4, rfl, h⟩ := h
  replace h := popN_inv h; obtain ⟨rfl, h⟩ := h
  replace h := popN_inv h; obtain ⟨rfl, h⟩ := h
  exact ⟨k, (cadastreref1_Put_l5_eq0 k K k (n0, b3, i4)).trans h⟩
theorem cadastreref1_Put_l12_eq1 {ρ : Type} (k : Nat) (K : Ex → St UU → Option ρ) : ∀ (n : Nat) (v : Int × (List Int)), iterK UX (fun s => s.at (cadastreref1_Put_cfg (ρ := ρ) k).live (cadastreref1_Put_cfg (ρ := ρ) k).boxes (some 12)) (exec UX (cadastreref1_Put_cfg k) (cadastreref1_Put_G k) (cadastreref1_Put_L.getD 1 .skip)) n ⟨[(0, .pv (.int .u64 v.1)), (5, .own (.li_u8 v.2))], []⟩ (nrmK UX (cadastreref1_Put_cfg k) 12 K) = cadastreref1_Put_l12 k (fun b5 => K (.exit 2) ⟨[(5, .own (.li_u8 b5))], []⟩) n v.1 v.2 :=
  iter_rec (X := UX) (fun v => ⟨[(0, .pv (.int .u64 v.1)), (5, .own (.li_u8 v.2))], []⟩) (fun rec v => cadastreref1_Put_l12_b k (fun b5 => K (.exit 2) ⟨[(5, .own (.li_u8 b5))], []⟩) (fun n0 b5 => rec (n0, b5)) v.1 v.2) (fun n v => cadastreref1_Put_l12 k (fun b5 => K (.exit 2) ⟨[(5, .own (.li_u8 b5))], []⟩) n v.1 v.2) (fun n v => by kernel_rfl) (fun _ => rfl) (fun _ _ => rfl)
theorem cadastreref1_Put_l12_ok1 {ρ : Type} (k : Nat) : IterOK UX (cadastreref1_Put_cfg (ρ := ρ) k) (cadastreref1_Put_G k) (cadastreref1_Put_L.getD 1 .skip) 12 (cadastreref1_Put_l12_s k) := by
  intro s K r h
  obtain ⟨env, hp⟩ := s
  unfold cadastreref1_Put_l12_s at h
  replace h := popS_inv h; obtain ⟨v1, e2, rfl, h⟩ := h
  replace h := asI_inv h; obtain ⟨n0, rfl, h⟩ := h
  replace h := popS_inv h; obtain ⟨v3, e4, rfl, h⟩ := h
  replace h := asO_li_u8_inv h; obtain ⟨b5, rfl, h⟩ := h
  replace h := popN_inv h; obtain ⟨rfl, h⟩ := h
  replace h := popN_inv h; obtain ⟨rfl, h⟩ := h
  exact ⟨k, (cadastreref1_Put_l12_eq1 k K k (n0, b5)).trans h⟩
theorem cadastreref1_Put_cok {ρ : Type} (k : Nat) : COK (cadastreref1_Put_cfg (ρ := ρ) k) (cadastreref1_Put_G k) cadastreref1_Put_code :=
  cok_of (tl := [(5, cadastreref1_Put_l5_s k), (12, cadastreref1_Put_l12_s k)]) (tj := []) (tb := []) rfl rfl rfl (all_nth 2 (by kernel_rfl) ⟨iter_case (by kernel_rfl) rfl (cadastreref1_Put_l12_ok1 k), iter_case (by kernel_rfl) rfl (cadastreref1_Put_l5_ok0 k), trivial⟩) (nil_all (by kernel_rfl)) (fun p hp => by cases hp)
noncomputable def cadastreref1_Put_enc (r : (List Int)) : AV UU := .own (.li_u8 r)
noncomputable def cadastreref1_Put_dec (v : AV UU) (_ : List (List (AV UU))) : Option (List Int) :=
asO_li_u8 v fun r =>
some r
theorem cadastreref1_Put_dec_enc (v : AV UU) (b : List (List (AV UU))) (r : (List Int)) (h : cadastreref1_Put_dec v b = some r) : v = cadastreref1_Put_enc r := by
  unfold cadastreref1_Put_dec at h
  replace h := asO_li_u8_inv h; obtain ⟨r, rfl, h⟩ := h
  cases h
  rfl
theorem cadastreref1_Put_eq (k : Nat) (n0 : Int) : bodyK UX (cadastreref1_Put_cfg k) (cadastreref1_Put_G k) Try.f51 [.pv (.int .u64 n0)] [] cadastreref1_Put_dec = cadastreref1_Put k n0 := by kernel_rfl
theorem cadastreref1_Put_con (k : Nat) (n0 : Int) (r : (List Int)) (h : cadastreref1_Put k n0 = some r) : Con (X := UX) Try.prog 51 [.pv (.int .u64 n0)] [] (cadastreref1_Put_enc r) [] :=
  con_of_body xok tok Try.func51 cadastreref1_Put_body (cadastreref1_Put_gok k) rfl (cadastreref1_Put_cok k) (of_decide_eq_true (by kernel_rfl)) cadastreref1_Put_dec_enc ((cadastreref1_Put_eq k n0).trans h)
noncomputable def cadastreref1_Put_an {ρ : Type} (k : Nat) : An UX ρ := fun args bx K =>
popA args fun v1 a2 =>
asI .u64 v1 fun n0 =>
popN a2 <|
popN bx <|
(cadastreref1_Put k n0).bind fun r => K (cadastreref1_Put_enc r) []
theorem cadastreref1_Put_ok {ρ : Type} (k : Nat) : AnsOK Try.prog 51 (cadastreref1_Put_an (ρ := ρ) k) := by
  intro args bx K r h
  unfold cadastreref1_Put_an at h
  replace h := popA_inv h; obtain ⟨v1, a2, rfl, h⟩ := h
  replace h := asI_inv h; obtain ⟨n0, rfl, h⟩ := h
  replace h := popN_inv h; obtain ⟨rfl, h⟩ := h
  replace h := popN_inv h; obtain ⟨rfl, h⟩ := h
  replace h := bind_inv h
  obtain ⟨x, hx, h⟩ := h
  exact ⟨there_of Try.func51 (by kernel_rfl) cadastreref1_Put_body, _, _, h, cadastreref1_Put_con k n0 x hx⟩

/-! cadastre/cadastreref6.size -/
noncomputable def cadastreref6_size_code : Code := match Try.f100.body with | some c => c | none => .skip
theorem cadastreref6_size_body : Try.f100.body = some cadastreref6_size_code := by kernel_rfl
noncomputable def cadastreref6_size_G {ρ : Type} (k : Nat) : Ans UX ρ := gnil
theorem cadastreref6_size_gok {ρ : Type} (k : Nat) : GOK Try.prog (cadastreref6_size_G (ρ := ρ) k) := gok_nil
noncomputable def cadastreref6_size_cfg {ρ : Type} (k : Nat) : Cfg UX ρ where
  live i := (assoc [(0, [0]), (1, [0]), (2, [3]), (3, []), (4, [3]), (5, []), (6, [3]), (7, []), (8, [3]), (9, []), (10, [])] i).getD []
  boxes i := (assoc [(0, []), (1, []), (2, []), (3, []), (4, []), (5, []), (6, []), (7, []), (8, []), (9, []), (10, [])] i).getD []
  tk i := (assoc [] i).getD []
  n := 12
  labelR l := (assoc [] l).getD 0
  loops := assoc []
  labels := assoc []
  joins := assoc []
  xl i e := match e with
    | .nxt => assoc [] i
    | .ret => assoc [] i
    | .exit j => (assoc [] i).bind fun l => assoc l j
    | .goto j => (assoc [] i).bind fun l => assoc l j
noncomputable def cadastreref6_size_L : List Code := selI [] (loopsOf cadastreref6_size_code)
noncomputable def cadastreref6_size_J : List Code := selI [] (joinsOf cadastreref6_size_code)
noncomputable def cadastreref6_size_S : List Code := scopesOf cadastreref6_size_code
theorem cadastreref6_size_cok {ρ : Type} (k : Nat) : COK (cadastreref6_size_cfg (ρ := ρ) k) (cadastreref6_size_G k) cadastreref6_size_code :=
  cok_of (tl := []) (tj := []) (tb := []) rfl rfl rfl (nil_all (by kernel_rfl)) (nil_all (by kernel_rfl)) (fun p hp => by cases hp)
noncomputable def cadastreref6_size_enc (r : Int) : AV UU := .pv (.int .i64 r)
noncomputable def cadastreref6_size_dec (v : AV UU) (_ : List (List (AV UU))) : Option Int :=
asI .i64 v fun r0 =>
some r0
theorem cadastreref6_size_dec_enc (v : AV UU) (b : List (List (AV UU))) (r : Int) (h : cadastreref6_size_dec v b = some r) : v = cadastreref6_size_enc r := by
  unfold cadastreref6_size_dec at h
  replace h := asI_inv h; obtain ⟨r0, rfl, h⟩ := h
  cases h
  rfl
theorem cadastreref6_size_eq (k : Nat) (t0 : Int) : bodyK UX (cadastreref6_size_cfg k) (cadastreref6_size_G k) Try.f100 [.pv (.int .u64 t0)] [] cadastreref6_size_dec = cadastreref6_size k t0 := by kernel_rfl
theorem cadastreref6_size_con (k : Nat) (t0 : Int) (r : Int) (h : cadastreref6_size k t0 = some r) : Con (X := UX) Try.prog 100 [.pv (.int .u64 t0)] [] (cadastreref6_size_enc r) [] :=
  con_of_body xok tok Try.func100 cadastreref6_size_body (cadastreref6_size_gok k) rfl (cadastreref6_size_cok k) (of_decide_eq_true (by kernel_rfl)) cadastreref6_size_dec_enc ((cadastreref6_size_eq k t0).trans h)
noncomputable def cadastreref6_size_an {ρ : Type} (k : Nat) : An UX ρ := fun args bx K =>
popA args fun v1 a2 =>
asI .u64 v1 fun t0 =>
popN a2 <|
popN bx <|
(cadastreref6_size k t0).bind fun r => K (cadastreref6_size_enc r) []
theorem cadastreref6_size_ok {ρ : Type} (k : Nat) : AnsOK Try.prog 100 (cadastreref6_size_an (ρ := ρ) k) := by
  intro args bx K r h
  unfold cadastreref6_size_an at h
  replace h := popA_inv h; obtain ⟨v1, a2, rfl, h⟩ := h
  replace h := asI_inv h; obtain ⟨t0, rfl, h⟩ := h
  replace h := popN_inv h; obtain ⟨rfl, h⟩ := h
  replace h := popN_inv h; obtain ⟨rfl, h⟩ := h
  replace h := bind_inv h
  obtain ⟨x, hx, h⟩ := h
  exact ⟨there_of Try.func100 (by kernel_rfl) cadastreref6_size_body, _, _, h, cadastreref6_size_con k t0 x hx⟩

/-! cadastre/cadastreref6.holds -/
noncomputable def cadastreref6_holds_code : Code := match Try.f102.body with | some c => c | none => .skip
theorem cadastreref6_holds_body : Try.f102.body = some cadastreref6_holds_code := by kernel_rfl
noncomputable def cadastreref6_holds_G {ρ : Type} (k : Nat) : Ans UX ρ := gnil
theorem cadastreref6_holds_gok {ρ : Type} (k : Nat) : GOK Try.prog (cadastreref6_holds_G (ρ := ρ) k) := gok_nil
noncomputable def cadastreref6_holds_cfg {ρ : Type} (k : Nat) : Cfg UX ρ where
  live i := (assoc [(0, [0, 1]), (1, [0, 1])] i).getD []
  boxes i := (assoc [(0, []), (1, [])] i).getD []
  tk i := (assoc [] i).getD []
  n := 23
  labelR l := (assoc [] l).getD 0
  loops := assoc []
  labels := assoc []
  joins := assoc []
  xl i e := match e with
    | .nxt => assoc [] i
    | .ret => assoc [] i
    | .exit j => (assoc [] i).bind fun l => assoc l j
    | .goto j => (assoc [] i).bind fun l => assoc l j
noncomputable def cadastreref6_holds_L : List Code := selI [] (loopsOf cadastreref6_holds_code)
noncomputable def cadastreref6_holds_J : List Code := selI [] (joinsOf cadastreref6_holds_code)
noncomputable def cadastreref6_holds_S : List Code := scopesOf cadastreref6_holds_code
theorem cadastreref6_holds_cok {ρ : Type} (k : Nat) : COK (cadastreref6_holds_cfg (ρ := ρ) k) (cadastreref6_holds_G k) cadastreref6_holds_code :=
  cok_of (tl := []) (tj := []) (tb := []) rfl rfl rfl (nil_all (by kernel_rfl)) (nil_all (by kernel_rfl)) (fun p hp => by cases hp)
noncomputable def cadastreref6_holds_enc (r : Bool) : AV UU := .pv (.bool r)
noncomputable def cadastreref6_holds_dec (v : AV UU) (_ : List (List (AV UU))) : Option Bool :=
asB v fun r0 =>
some r0
theorem cadastreref6_holds_dec_enc (v : AV UU) (b : List (List (AV UU))) (r : Bool) (h : cadastreref6_holds_dec v b = some r) : v = cadastreref6_holds_enc r := by
  unfold cadastreref6_holds_dec at h
  replace h := asB_inv h; obtain ⟨r0, rfl, h⟩ := h
  cases h
  rfl
theorem cadastreref6_holds_eq (k : Nat) (n0 : Int) (bytes1 : Int) : bodyK UX (cadastreref6_holds_cfg k) (cadastreref6_holds_G k) Try.f102 [.pv (.int .i64 n0), .pv (.int .i64 bytes1)] [] cadastreref6_holds_dec = cadastreref6_holds k n0 bytes1 := by kernel_rfl
theorem cadastreref6_holds_con (k : Nat) (n0 : Int) (bytes1 : Int) (r : Bool) (h : cadastreref6_holds k n0 bytes1 = some r) : Con (X := UX) Try.prog 102 [.pv (.int .i64 n0), .pv (.int .i64 bytes1)] [] (cadastreref6_holds_enc r) [] :=
  con_of_body xok tok Try.func102 cadastreref6_holds_body (cadastreref6_holds_gok k) rfl (cadastreref6_holds_cok k) (of_decide_eq_true (by kernel_rfl)) cadastreref6_holds_dec_enc ((cadastreref6_holds_eq k n0 bytes1).trans h)
noncomputable def cadastreref6_holds_an {ρ : Type} (k : Nat) : An UX ρ := fun args bx K =>
popA args fun v1 a2 =>
asI .i64 v1 fun n0 =>
popA a2 fun v3 a4 =>
asI .i64 v3 fun bytes1 =>
popN a4 <|
popN bx <|
(cadastreref6_holds k n0 bytes1).bind fun r => K (cadastreref6_holds_enc r) []
theorem cadastreref6_holds_ok {ρ : Type} (k : Nat) : AnsOK Try.prog 102 (cadastreref6_holds_an (ρ := ρ) k) := by
  intro args bx K r h
  unfold cadastreref6_holds_an at h
  replace h := popA_inv h; obtain ⟨v1, a2, rfl, h⟩ := h
  replace h := asI_inv h; obtain ⟨n0, rfl, h⟩ := h
  replace h := popA_inv h; obtain ⟨v3, a4, rfl, h⟩ := h
  replace h := asI_inv h; obtain ⟨bytes1, rfl, h⟩ := h
  replace h := popN_inv h; obtain ⟨rfl, h⟩ := h
  replace h := popN_inv h; obtain ⟨rfl, h⟩ := h
  replace h := bind_inv h
  obtain ⟨x, hx, h⟩ := h
  exact ⟨there_of Try.func102 (by kernel_rfl) cadastreref6_holds_body, _, _, h, cadastreref6_holds_con k n0 bytes1 x hx⟩

/-! cadastre/cadastreref6.kind -/
noncomputable def cadastreref6_kind_code : Code := match Try.f73.body with | some c => c | none => .skip
theorem cadastreref6_kind_body : Try.f73.body = some cadastreref6_kind_code := by kernel_rfl
noncomputable def cadastreref6_kind_G {ρ : Type} (k : Nat) : Ans UX ρ := gk 100 (cadastreref6_size_an k) (gk 102 (cadastreref6_holds_an k) (gnil))
theorem cadastreref6_kind_gok {ρ : Type} (k : Nat) : GOK Try.prog (cadastreref6_kind_G (ρ := ρ) k) := gok_cons (cadastreref6_size_ok k) (gok_cons (cadastreref6_holds_ok k) (gok_nil))
noncomputable def cadastreref6_kind_l13_s {ρ : Type} (k : Nat) : Run UX ρ := fun s K =>
popS 1 s.env fun v1 e2 =>
asP 1 0 v1 <|
popS 3 e2 fun v3 e4 =>
asI .u64 v3 fun t3 =>
popN e4 <|
popB 1 s.hp fun c5 e6 =>
popA c5 fun v7 c8 =>
asI .i64 v7 fun z9 =>
popA c8 fun v10 c11 =>
asI .i64 v10 fun z12 =>
popA c11 fun v13 c14 =>
asS v13 fun z15 =>
popN c14 <|
popN e6 <|
cadastreref6_kind_l13 k (fun t2 => K .ret ⟨[(2, .pv (.int .u64 t2))], []⟩) (K (.exit 1) ⟨[], []⟩) k t3 (⟨z9, z12, z15⟩ : S44)
noncomputable def cadastreref6_kind_cfg {ρ : Type} (k : Nat) : Cfg UX ρ where
  live i := (assoc [(0, [0]), (1, [1]), (2, [1, 5]), (3, []), (4, [1, 5]), (5, [1]), (6, [1, 5]), (7, [1]), (8, [1]), (9, []), (10, [1]), (11, []), (12, [1]), (13, [1, 3]), (14, [1, 3]), (15, [1, 3]), (16, [3]), (17, [])] i).getD []
  boxes i := (assoc [(0, []), (1, [1]), (2, [1]), (3, []), (4, [1]), (5, [1]), (6, [1]), (7, [1]), (8, [1]), (9, []), (10, [1]), (11, []), (12, [1]), (13, [1]), (14, [1]), (15, [1]), (16, []), (17, [])] i).getD []
  tk i := (assoc [] i).getD []
  n := 40
  labelR l := (assoc [] l).getD 0
  loops := assoc [(13, cadastreref6_kind_l13_s k)]
  labels := assoc []
  joins := assoc []
  xl i e := match e with
    | .nxt => assoc [] i
    | .ret => assoc [(13, ([2], []))] i
    | .exit j => (assoc [(13, [(1, ([], []))])] i).bind fun l => assoc l j
    | .goto j => (assoc [] i).bind fun l => assoc l j
noncomputable def cadastreref6_kind_L : List Code := selI [13] (loopsOf cadastreref6_kind_code)
noncomputable def cadastreref6_kind_J : List Code := selI [] (joinsOf cadastreref6_kind_code)
noncomputable def cadastreref6_kind_S : List Code := scopesOf cadastreref6_kind_code
theorem cadastreref6_kind_l13_eq0 {ρ : Type} (k : Nat) (K : Ex → St UU → Option ρ) : ∀ (n : Nat) (v : Int × S44), iterK UX (fun s => s.at (cadastreref6_kind_cfg (ρ := ρ) k).live (cadastreref6_kind_cfg (ρ := ρ) k).boxes (some 13)) (exec UX (cadastreref6_kind_cfg k) (cadastreref6_kind_G k) (cadastreref6_kind_L.getD 0 .skip)) n ⟨[(1, .ptr 1 0), (3, .pv (.int .u64 v.1))], [(1, [.pv (.int .i64 v.2.f0), .pv (.int .i64 v.2.f1), .pv (.str v.2.f2)])]⟩ (nrmK UX (cadastreref6_kind_cfg k) 13 K) = cadastreref6_kind_l13 k (fun t2 => K .ret ⟨[(2, .pv (.int .u64 t2))], []⟩) (K (.exit 1) ⟨[], []⟩) n v.1 v.2 :=
  iter_rec (X := UX) (fun v => ⟨[(1, .ptr 1 0), (3, .pv (.int .u64 v.1))], [(1, [.pv (.int .i64 v.2.f0), .pv (.int .i64 v.2.f1), .pv (.str v.2.f2)])]⟩) (fun rec v => cadastreref6_kind_l13_b k (fun t2 => K .ret ⟨[(2, .pv (.int .u64 t2))], []⟩) (K (.exit 1) ⟨[], []⟩) (fun t3 v1 => rec (t3, v1)) v.1 v.2) (fun n v => cadastreref6_kind_l13 k (fun t2 => K .ret ⟨[(2, .pv (.int .u64 t2))], []⟩) (K (.exit 1) ⟨[], []⟩) n v.1 v.2) (fun n v => by kernel_rfl) (fun _ => rfl) (fun _ _ => rfl)
theorem cadastreref6_kind_l13_ok0 {ρ : Type} (k : Nat) : IterOK UX (cadastreref6_kind_cfg (ρ := ρ) k) (cadastreref6_kind_G k) (cadastreref6_kind_L.getD 0 .skip) 13 (cadastreref6_kind_l13_s k) := by
  intro s K r h
  obtain ⟨env, hp⟩ := s
  unfold cadastreref6_kind_l13_s at h
  replace h := popS_inv h; obtain ⟨v1, e2, rfl, h⟩ := h
  replace h := asP_inv h; obtain ⟨rfl, h⟩ := h
  replace h := popS_inv h; obtain ⟨v3, e4, rfl, h⟩ := h
  replace h := asI_inv h; obtain ⟨t3, rfl, h⟩ := h
  replace h := popN_inv h; obtain ⟨rfl, h⟩ := h
  replace h := popB_inv h; obtain ⟨c5, e6, rfl, h⟩ := h
  replace h := popA_inv h; obtain ⟨v7, c8, rfl, h⟩ := h
  replace h := asI_inv h; obtain ⟨z9, rfl, h⟩ := h
  replace h := popA_inv h; obtain ⟨v10, c11, rfl, h⟩ := h
  replace h := asI_inv h; obtain ⟨z12, rfl, h⟩ := h
  replace h := popA_inv h; obtain ⟨v13, c14, rfl, h⟩ := h
  replace h := asS_inv h; obtain ⟨z15, rfl, h⟩ := h
  replace h := popN_inv h; obtain ⟨rfl, h⟩ := h
  replace h := popN_inv h; obtain ⟨rfl, h⟩ := h
  exact ⟨k, (cadastreref6_kind_l13_eq0 k K k (t3, (⟨z9, z12, z15⟩ : S44))).trans h⟩
theorem cadastreref6_kind_cok {ρ : Type} (k : Nat) : COK (cadastreref6_kind_cfg (ρ := ρ) k) (cadastreref6_kind_G k) cadastreref6_kind_code :=
  cok_of (tl := [(13, cadastreref6_kind_l13_s k)]) (tj := []) (tb := []) rfl rfl rfl (all_nth 1 (by kernel_rfl) ⟨iter_case (by kernel_rfl) rfl (cadastreref6_kind_l13_ok0 k), trivial⟩) (nil_all (by kernel_rfl)) (fun p hp => by cases hp)
noncomputable def cadastreref6_kind_enc (r : Int) : AV UU := .pv (.int .u64 r)
noncomputable def cadastreref6_kind_dec (v : AV UU) (_ : List (List (AV UU))) : Option Int :=
asI .u64 v fun r0 =>
some r0
theorem cadastreref6_kind_dec_enc (v : AV UU) (b : List (List (AV UU))) (r : Int) (h : cadastreref6_kind_dec v b = some r) : v = cadastreref6_kind_enc r := by
  unfold cadastreref6_kind_dec at h
  replace h := asI_inv h; obtain ⟨r0, rfl, h⟩ := h
  cases h
  rfl
theorem cadastreref6_kind_eq (k : Nat) (v0 : S44) : bodyK UX (cadastreref6_kind_cfg k) (cadastreref6_kind_G k) Try.f73 [.pv (.typ (.s44 v0))] [] cadastreref6_kind_dec = cadastreref6_kind k v0 := by kernel_rfl
theorem cadastreref6_kind_con (k : Nat) (v0 : S44) (r : Int) (h : cadastreref6_kind k v0 = some r) : Con (X := UX) Try.prog 73 [.pv (.typ (.s44 v0))] [] (cadastreref6_kind_enc r) [] :=
  con_of_body xok tok Try.func73 cadastreref6_kind_body (cadastreref6_kind_gok k) rfl (cadastreref6_kind_cok k) (of_decide_eq_true (by kernel_rfl)) cadastreref6_kind_dec_enc ((cadastreref6_kind_eq k v0).trans h)
noncomputable def cadastreref6_kind_an {ρ : Type} (k : Nat) : An UX ρ := fun args bx K =>
popA args fun v1 a2 =>
as_s44 v1 fun v0 =>
popN a2 <|
popN bx <|
(cadastreref6_kind k v0).bind fun r => K (cadastreref6_kind_enc r) []
theorem cadastreref6_kind_ok {ρ : Type} (k : Nat) : AnsOK Try.prog 73 (cadastreref6_kind_an (ρ := ρ) k) := by
  intro args bx K r h
  unfold cadastreref6_kind_an at h
  replace h := popA_inv h; obtain ⟨v1, a2, rfl, h⟩ := h
  replace h := as_s44_inv h; obtain ⟨v0, rfl, h⟩ := h
  replace h := popN_inv h; obtain ⟨rfl, h⟩ := h
  replace h := popN_inv h; obtain ⟨rfl, h⟩ := h
  replace h := bind_inv h
  obtain ⟨x, hx, h⟩ := h
  exact ⟨there_of Try.func73 (by kernel_rfl) cadastreref6_kind_body, _, _, h, cadastreref6_kind_con k v0 x hx⟩

/-! cadastre/cadastreref6.body -/
noncomputable def cadastreref6_body_code : Code := match Try.f74.body with | some c => c | none => .skip
theorem cadastreref6_body_body : Try.f74.body = some cadastreref6_body_code := by kernel_rfl
noncomputable def cadastreref6_body_G {ρ : Type} (k : Nat) : Ans UX ρ := gk 73 (cadastreref6_kind_an k) (gk 100 (cadastreref6_size_an k) (gnil))
theorem cadastreref6_body_gok {ρ : Type} (k : Nat) : GOK Try.prog (cadastreref6_body_G (ρ := ρ) k) := gok_cons (cadastreref6_kind_ok k) (gok_cons (cadastreref6_size_ok k) (gok_nil))
noncomputable def cadastreref6_body_l5_s {ρ : Type} (k : Nat) : Run UX ρ := fun s K =>
popS 1 s.env fun v1 e2 =>
asP 1 0 v1 <|
popS 3 e2 fun v3 e4 =>
asO_li_u8 v3 fun b3 =>
popS 4 e4 fun v5 e6 =>
asI .i64 v5 fun i4 =>
popN e6 <|
popB 1 s.hp fun c7 e8 =>
popA c7 fun v9 c10 =>
asI .i64 v9 fun z11 =>
popA c10 fun v12 c13 =>
asI .i64 v12 fun z14 =>
popA c13 fun v15 c16 =>
asS v15 fun z17 =>
popN c16 <|
popN e8 <|
cadastreref6_body_l5 k (fun b3 => K (.exit 0) ⟨[(3, .own (.li_u8 b3))], []⟩) k b3 i4 (⟨z11, z14, z17⟩ : S44)
noncomputable def cadastreref6_body_cfg {ρ : Type} (k : Nat) : Cfg UX ρ where
  live i := (assoc [(0, [0]), (1, [1]), (2, [1]), (3, [1]), (4, [1, 3]), (5, [1, 3, 4]), (6, [1, 3, 4]), (7, [1, 3, 4]), (8, [3])] i).getD []
  boxes i := (assoc [(0, []), (1, [1]), (2, [1]), (3, [1]), (4, [1]), (5, [1]), (6, [1]), (7, [1]), (8, [])] i).getD []
  tk i := (assoc [(1000000, [2, 3])] i).getD []
  n := 29
  labelR l := (assoc [] l).getD 0
  loops := assoc [(5, cadastreref6_body_l5_s k)]
  labels := assoc []
  joins := assoc []
  xl i e := match e with
    | .nxt => assoc [] i
    | .ret => assoc [] i
    | .exit j => (assoc [(5, [(0, ([3], []))])] i).bind fun l => assoc l j
    | .goto j => (assoc [] i).bind fun l => assoc l j
noncomputable def cadastreref6_body_L : List Code := selI [5] (loopsOf cadastreref6_body_code)
noncomputable def cadastreref6_body_J : List Code := selI [] (joinsOf cadastreref6_body_code)
noncomputable def cadastreref6_body_S : List Code := scopesOf cadastreref6_body_code
theorem cadastreref6_body_l5_eq0 {ρ : Type} (k : Nat) (K : Ex → St UU → Option ρ) : ∀ (n : Nat) (v : (List Int) × Int × S44), iterK UX (fun s => s.at (cadastreref6_body_cfg (ρ := ρ) k).live (cadastreref6_body_cfg (ρ := ρ) k).boxes (some 5)) (exec UX (cadastreref6_body_cfg k) (cadastreref6_body_G k) (cadastreref6_body_L.getD 0 .skip)) n ⟨[(1, .ptr 1 0), (3, .own (.li_u8 v.1)), (4, .pv (.int .i64 v.2.1))], [(1, [.pv (.int .i64 v.2.2.f0), .pv (.int .i64 v.2.2.f1), .pv (.str v.2.2.f2)])]⟩ (nrmK UX (cadastreref6_body_cfg k) 5 K) = cadastreref6_body_l5 k (fun b3 => K (.exit 0) ⟨[(3, .own (.li_u8 b3))], []⟩) n v.1 v.2.1 v.2.2 :=
  iter_rec (X := UX) (fun v => ⟨[(1, .ptr 1 0), (3, .own (.li_u8 v.1)), (4, .pv (.int .i64 v.2.1))], [(1, [.pv (.int .i64 v.2.2.f0), .pv (.int .i64 v.2.2.f1), .pv (.str v.2.2.f2)])]⟩) (fun rec v => cadastreref6_body_l5_b k (fun b3 => K (.exit 0) ⟨[(3, .own (.li_u8 b3))], []⟩) (fun b3 i4 v1 => rec (b3, i4, v1)) v.1 v.2.1 v.2.2) (fun n v => cadastreref6_body_l5 k (fun b3 => K (.exit 0) ⟨[(3, .own (.li_u8 b3))], []⟩) n v.1 v.2.1 v.2.2) (fun n v => by kernel_rfl) (fun _ => rfl) (fun _ _ => rfl)
theorem cadastreref6_body_l5_ok0 {ρ : Type} (k : Nat) : IterOK UX (cadastreref6_body_cfg (ρ := ρ) k) (cadastreref6_body_G k) (cadastreref6_body_L.getD 0 .skip) 5 (cadastreref6_body_l5_s k) := by
  intro s K r h
  obtain ⟨env, hp⟩ := s
  unfold cadastreref6_body_l5_s at h
  replace h := popS_inv h; obtain ⟨v1, e2, rfl, h⟩ := h
  replace h := asP_inv h; obtain ⟨rfl, h⟩ := h
  replace h := popS_inv h; obtain ⟨v3, e4, rfl, h⟩ := h
  replace h := asO_li_u8_inv h; obtain ⟨b3, rfl, h⟩ := h
  replace h := popS_inv h; obtain ⟨v5, e6, rfl, h⟩ := h
  replace h := asI_inv h; obtain ⟨i4, rfl, h⟩ := h
  replace h := popN_inv h; obtain ⟨rfl, h⟩ := h
  replace h := popB_inv h; obtain ⟨c7, e8, rfl, h⟩ := h
  replace h := popA_inv h; obtain ⟨v9, c10, rfl, h⟩ := h
  replace h := asI_inv h; obtain ⟨z11, rfl, h⟩ := h
  replace h := popA_inv h; obtain ⟨v12, c13, rfl, h⟩ := h
  replace h := asI_inv h; obtain ⟨z14, rfl, h⟩ := h
  replace h := popA_inv h; obtain ⟨v15, c16, rfl, h⟩ := h
  replace h := asS_inv h; obtain ⟨z17, rfl, h⟩ := h
  replace h := popN_inv h; obtain ⟨rfl, h⟩ := h
  replace h := popN_inv h; obtain ⟨rfl, h⟩ := h
  exact ⟨k, (cadastreref6_body_l5_eq0 k K k (b3, i4, (⟨z11, z14, z17⟩ : S44))).trans h⟩
theorem cadastreref6_body_cok {ρ : Type} (k : Nat) : COK (cadastreref6_body_cfg (ρ := ρ) k) (cadastreref6_body_G k) cadastreref6_body_code :=
  cok_of (tl := [(5, cadastreref6_body_l5_s k)]) (tj := []) (tb := []) rfl rfl rfl (all_nth 1 (by kernel_rfl) ⟨iter_case (by kernel_rfl) rfl (cadastreref6_body_l5_ok0 k), trivial⟩) (nil_all (by kernel_rfl)) (fun p hp => by cases hp)
noncomputable def cadastreref6_body_enc (r : (List Int)) : AV UU := .own (.li_u8 r)
noncomputable def cadastreref6_body_dec (v : AV UU) (_ : List (List (AV UU))) : Option (List Int) :=
asO_li_u8 v fun r =>
some r
theorem cadastreref6_body_dec_enc (v : AV UU) (b : List (List (AV UU))) (r : (List Int)) (h : cadastreref6_body_dec v b = some r) : v = cadastreref6_body_enc r := by
  unfold cadastreref6_body_dec at h
  replace h := asO_li_u8_inv h; obtain ⟨r, rfl, h⟩ := h
  cases h
  rfl
theorem cadastreref6_body_eq (k : Nat) (v0 : S44) : bodyK UX (cadastreref6_body_cfg k) (cadastreref6_body_G k) Try.f74 [.pv (.typ (.s44 v0))] [] cadastreref6_body_dec = cadastreref6_body k v0 := by kernel_rfl
theorem cadastreref6_body_con (k : Nat) (v0 : S44) (r : (List Int)) (h : cadastreref6_body k v0 = some r) : Con (X := UX) Try.prog 74 [.pv (.typ (.s44 v0))] [] (cadastreref6_body_enc r) [] :=
  con_of_body xok tok Try.func74 cadastreref6_body_body (cadastreref6_body_gok k) rfl (cadastreref6_body_cok k) (of_decide_eq_true (by kernel_rfl)) cadastreref6_body_dec_enc ((cadastreref6_body_eq k v0).trans h)
noncomputable def cadastreref6_body_an {ρ : Type} (k : Nat) : An UX ρ := fun args bx K =>
popA args fun v1 a2 =>
as_s44 v1 fun v0 =>
popN a2 <|
popN bx <|
(cadastreref6_body k v0).bind fun r => K (cadastreref6_body_enc r) []
theorem cadastreref6_body_ok {ρ : Type} (k : Nat) : AnsOK Try.prog 74 (cadastreref6_body_an (ρ := ρ) k) := by
  intro args bx K r h
  unfold cadastreref6_body_an at h
  replace h := popA_inv h; obtain ⟨v1, a2, rfl, h⟩ := h
  replace h := as_s44_inv h; obtain ⟨v0, rfl, h⟩ := h
  replace h := popN_inv h; obtain ⟨rfl, h⟩ := h
  replace h := popN_inv h; obtain ⟨rfl, h⟩ := h
  replace h := bind_inv h
  obtain ⟨x, hx, h⟩ := h
  exact ⟨there_of Try.func74 (by kernel_rfl) cadastreref6_body_body, _, _, h, cadastreref6_body_con k v0 x hx⟩

/-! cadastre/cadastreref6.Record -/
noncomputable def cadastreref6_Record_code : Code := match Try.f56.body with | some c => c | none => .skip
theorem cadastreref6_Record_body : Try.f56.body = some cadastreref6_Record_code := by kernel_rfl
noncomputable def cadastreref6_Record_G {ρ : Type} (k : Nat) : Ans UX ρ := gk 51 (cadastreref1_Put_an k) (gk 73 (cadastreref6_kind_an k) (gk 74 (cadastreref6_body_an k) (gnil)))
theorem cadastreref6_Record_gok {ρ : Type} (k : Nat) : GOK Try.prog (cadastreref6_Record_G (ρ := ρ) k) := gok_cons (cadastreref1_Put_ok k) (gok_cons (cadastreref6_kind_ok k) (gok_cons (cadastreref6_body_ok k) (gok_nil)))
noncomputable def cadastreref6_Record_l3_s {ρ : Type} (k : Nat) : Run UX ρ := fun s K =>
popS 0 s.env fun v1 e2 =>
as_l44 v1 fun l0 =>
popS 3 e2 fun v3 e4 =>
asO_li_u8 v3 fun b3 =>
popS 4 e4 fun v5 e6 =>
asI .i64 v5 fun i4 =>
popN e6 <|
popN s.hp <|
cadastreref6_Record_l3 k (fun l0 b3 => K (.exit 0) ⟨[(0, .pv (.typ (.l44 l0))), (3, .own (.li_u8 b3))], []⟩) k l0 b3 i4
noncomputable def cadastreref6_Record_l7_s {ρ : Type} (k : Nat) : Run UX ρ := fun s K =>
popS 0 s.env fun v1 e2 =>
as_l44 v1 fun l0 =>
popS 3 e2 fun v3 e4 =>
asO_li_u8 v3 fun b3 =>
popS 5 e4 fun v5 e6 =>
asI .i64 v5 fun i5 =>
popN e6 <|
popN s.hp <|
cadastreref6_Record_l7 k (fun b3 => K (.exit 2) ⟨[(3, .own (.li_u8 b3))], []⟩) k l0 b3 i5
noncomputable def cadastreref6_Record_cfg {ρ : Type} (k : Nat) : Cfg UX ρ where
  live i := (assoc [(0, [0]), (1, [0]), (2, [0, 3]), (3, [0, 3, 4]), (4, [0, 3, 4]), (5, [0, 3, 4]), (6, [0, 3]), (7, [0, 3, 5]), (8, [0, 3, 5]), (9, [0, 3, 5]), (10, [3])] i).getD []
  boxes i := (assoc [(0, []), (1, []), (2, []), (3, []), (4, []), (5, []), (6, []), (7, []), (8, []), (9, []), (10, [])] i).getD []
  tk i := (assoc [(1000000, [2])] i).getD []
  n := 38
  labelR l := (assoc [] l).getD 0
  loops := assoc [(3, cadastreref6_Record_l3_s k), (7, cadastreref6_Record_l7_s k)]
  labels := assoc []
  joins := assoc []
  xl i e := match e with
    | .nxt => assoc [] i
    | .ret => assoc [] i
    | .exit j => (assoc [(3, [(0, ([0, 3], []))]), (7, [(2, ([3], []))])] i).bind fun l => assoc l j
    | .goto j => (assoc [] i).bind fun l => assoc l j
noncomputable def cadastreref6_Record_L : List Code := selI [3, 7] (loopsOf cadastreref6_Record_code)
noncomputable def cadastreref6_Record_J : List Code := selI [] (joinsOf cadastreref6_Record_code)
noncomputable def cadastreref6_Record_S : List Code := scopesOf cadastreref6_Record_code
theorem cadastreref6_Record_l3_eq0 {ρ : Type} (k : Nat) (K : Ex → St UU → Option ρ) : ∀ (n : Nat) (v : (List S44) × (List Int) × Int), iterK UX (fun s => s.at (cadastreref6_Record_cfg (ρ := ρ) k).live (cadastreref6_Record_cfg (ρ := ρ) k).boxes (some 3)) (exec UX (cadastreref6_Record_cfg k) (cadastreref6_Record_G k) (cadastreref6_Record_L.getD 0 .skip)) n ⟨[(0, .pv (.typ (.l44 v.1))), (3, .own (.li_u8 v.2.1)), (4, .pv (.int .i64 v.2.2))], []⟩ (nrmK UX (cadastreref6_Record_cfg k) 3 K) = cadastreref6_Record_l3 k (fun l0 b3 => K (.exit 0) ⟨[(0, .pv (.typ (.l44 l0))), (3, .own (.li_u8 b3))], []⟩) n v.1 v.2.1 v.2.2 :=
  iter_rec (X := UX) (fun v => ⟨[(0, .pv (.typ (.l44 v.1))), (3, .own (.li_u8 v.2.1)), (4, .pv (.int .i64 v.2.2))], []⟩) (fun rec v => cadastreref6_Record_l3_b k (fun l0 b3 => K (.exit 0) ⟨[(0, .pv (.typ (.l44 l0))), (3, .own (.li_u8 b3))], []⟩) (fun l0 b3 i4 => rec (l0, b3, i4)) v.1 v.2.1 v.2.2) (fun n v => cadastreref6_Record_l3 k (fun l0 b3 => K (.exit 0) ⟨[(0, .pv (.typ (.l44 l0))), (3, .own (.li_u8 b3))], []⟩) n v.1 v.2.1 v.2.2) (fun n v => by kernel_rfl) (fun _ => rfl) (fun _ _ => rfl)
theorem cadastreref6_Record_l3_ok0 {ρ : Type} (k : Nat) : IterOK UX (cadastreref6_Record_cfg (ρ := ρ) k) (cadastreref6_Record_G k) (cadastreref6_Record_L.getD 0 .skip) 3 (cadastreref6_Record_l3_s k) := by
  intro s K r h
  obtain ⟨env, hp⟩ := s
  unfold cadastreref6_Record_l3_s at h
  replace h := popS_inv h; obtain ⟨v1, e2, rfl, h⟩ := h
  replace h := as_l44_inv h; obtain ⟨l0, rfl, h⟩ := h
  replace h := popS_inv h; obtain ⟨v3, e4, rfl, h⟩ := h
  replace h := asO_li_u8_inv h; obtain ⟨b3, rfl, h⟩ := h
  replace h := popS_inv h; obtain ⟨v5, e6, rfl, h⟩ := h
  replace h := asI_inv h; obtain ⟨i4, rfl, h⟩ := h
  replace h := popN_inv h; obtain ⟨rfl, h⟩ := h
  replace h := popN_inv h; obtain ⟨rfl, h⟩ := h
  exact ⟨k, (cadastreref6_Record_l3_eq0 k K k (l0, b3, i4)).trans h⟩
theorem cadastreref6_Record_l7_eq1 {ρ : Type} (k : Nat) (K : Ex → St UU → Option ρ) : ∀ (n : Nat) (v : (List S44) × (List Int) × Int), iterK UX (fun s => s.at (cadastreref6_Record_cfg (ρ := ρ) k).live (cadastreref6_Record_cfg (ρ := ρ) k).boxes (some 7)) (exec UX (cadastreref6_Record_cfg k) (cadastreref6_Record_G k) (cadastreref6_Record_L.getD 1 .skip)) n ⟨[(0, .pv (.typ (.l44 v.1))), (3, .own (.li_u8 v.2.1)), (5, .pv (.int .i64 v.2.2))], []⟩ (nrmK UX (cadastreref6_Record_cfg k) 7 K) = cadastreref6_Record_l7 k (fun b3 => K (.exit 2) ⟨[(3, .own (.li_u8 b3))], []⟩) n v.1 v.2.1 v.2.2 :=
  iter_rec (X := UX) (fun v => ⟨[(0, .pv (.typ (.l44 v.1))), (3, .own (.li_u8 v.2.1)), (5, .pv (.int .i64 v.2.2))], []⟩) (fun rec v => cadastreref6_Record_l7_b k (fun b3 => K (.exit 2) ⟨[(3, .own (.li_u8 b3))], []⟩) (fun l0 b3 i5 => rec (l0, b3, i5)) v.1 v.2.1 v.2.2) (fun n v => cadastreref6_Record_l7 k (fun b3 => K (.exit 2) ⟨[(3, .own (.li_u8 b3))], []⟩) n v.1 v.2.1 v.2.2) (fun n v => by kernel_rfl) (fun _ => rfl) (fun _ _ => rfl)
theorem cadastreref6_Record_l7_ok1 {ρ : Type} (k : Nat) : IterOK UX (cadastreref6_Record_cfg (ρ := ρ) k) (cadastreref6_Record_G k) (cadastreref6_Record_L.getD 1 .skip) 7 (cadastreref6_Record_l7_s k) := by
  intro s K r h
  obtain ⟨env, hp⟩ := s
  unfold cadastreref6_Record_l7_s at h
  replace h := popS_inv h; obtain ⟨v1, e2, rfl, h⟩ := h
  replace h := as_l44_inv h; obtain ⟨l0, rfl, h⟩ := h
  replace h := popS_inv h; obtain ⟨v3, e4, rfl, h⟩ := h
  replace h := asO_li_u8_inv h; obtain ⟨b3, rfl, h⟩ := h
  replace h := popS_inv h; obtain ⟨v5, e6, rfl, h⟩ := h
  replace h := asI_inv h; obtain ⟨i5, rfl, h⟩ := h
  replace h := popN_inv h; obtain ⟨rfl, h⟩ := h
  replace h := popN_inv h; obtain ⟨rfl, h⟩ := h
  exact ⟨k, (cadastreref6_Record_l7_eq1 k K k (l0, b3, i5)).trans h⟩
theorem cadastreref6_Record_cok {ρ : Type} (k : Nat) : COK (cadastreref6_Record_cfg (ρ := ρ) k) (cadastreref6_Record_G k) cadastreref6_Record_code :=
  cok_of (tl := [(3, cadastreref6_Record_l3_s k), (7, cadastreref6_Record_l7_s k)]) (tj := []) (tb := []) rfl rfl rfl (all_nth 2 (by kernel_rfl) ⟨iter_case (by kernel_rfl) rfl (cadastreref6_Record_l7_ok1 k), iter_case (by kernel_rfl) rfl (cadastreref6_Record_l3_ok0 k), trivial⟩) (nil_all (by kernel_rfl)) (fun p hp => by cases hp)
noncomputable def cadastreref6_Record_enc (r : (List Int)) : AV UU := .own (.li_u8 r)
noncomputable def cadastreref6_Record_dec (v : AV UU) (_ : List (List (AV UU))) : Option (List Int) :=
asO_li_u8 v fun r =>
some r
theorem cadastreref6_Record_dec_enc (v : AV UU) (b : List (List (AV UU))) (r : (List Int)) (h : cadastreref6_Record_dec v b = some r) : v = cadastreref6_Record_enc r := by
  unfold cadastreref6_Record_dec at h
  replace h := asO_li_u8_inv h; obtain ⟨r, rfl, h⟩ := h
  cases h
  rfl
theorem cadastreref6_Record_eq (k : Nat) (l0 : List S44) : bodyK UX (cadastreref6_Record_cfg k) (cadastreref6_Record_G k) Try.f56 [.pv (.typ (.l44 l0))] [] cadastreref6_Record_dec = cadastreref6_Record k l0 := by kernel_rfl
theorem cadastreref6_Record_con (k : Nat) (l0 : List S44) (r : (List Int)) (h : cadastreref6_Record k l0 = some r) : Con (X := UX) Try.prog 56 [.pv (.typ (.l44 l0))] [] (cadastreref6_Record_enc r) [] :=
  con_of_body xok tok Try.func56 cadastreref6_Record_body (cadastreref6_Record_gok k) rfl (cadastreref6_Record_cok k) (of_decide_eq_true (by kernel_rfl)) cadastreref6_Record_dec_enc ((cadastreref6_Record_eq k l0).trans h)
noncomputable def cadastreref6_Record_an {ρ : Type} (k : Nat) : An UX ρ := fun args bx K =>
popA args fun v1 a2 =>
as_l44 v1 fun l0 =>
popN a2 <|
popN bx <|
(cadastreref6_Record k l0).bind fun r => K (cadastreref6_Record_enc r) []
theorem cadastreref6_Record_ok {ρ : Type} (k : Nat) : AnsOK Try.prog 56 (cadastreref6_Record_an (ρ := ρ) k) := by
  intro args bx K r h
  unfold cadastreref6_Record_an at h
  replace h := popA_inv h; obtain ⟨v1, a2, rfl, h⟩ := h
  replace h := as_l44_inv h; obtain ⟨l0, rfl, h⟩ := h
  replace h := popN_inv h; obtain ⟨rfl, h⟩ := h
  replace h := popN_inv h; obtain ⟨rfl, h⟩ := h
  replace h := bind_inv h
  obtain ⟨x, hx, h⟩ := h
  exact ⟨there_of Try.func56 (by kernel_rfl) cadastreref6_Record_body, _, _, h, cadastreref6_Record_con k l0 x hx⟩
end Go.Proofs.Ytekjibpkkgldgaa.R
