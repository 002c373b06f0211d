/-
  What the program's functions answer: the printed functions' answers.
-/
import Derived.Test.YtnoeedkbadoogaaDoorPU
import Derived.Test.YtnoeedkbadoogaaDoorAxExt
import Derived.Test.YtnoeedkbadoogaaDoorAxTab
import Derived.Test.YtnoeedkbadoogaaDoorLay
namespace Go.Proofs.YtnoeedkbadoogaaDoor.P
open Go Go.AX
/-! cadastre/cadastreref2.May -/
noncomputable def cadastreref2_May_code : Code := match Tryd.f6.body with | some c => c | none => .skip
theorem cadastreref2_May_body : Tryd.f6.body = some cadastreref2_May_code := by kernel_rfl
noncomputable def cadastreref2_May_G {ρ : Type} (k : Nat) : Ans UX ρ := gnil
theorem cadastreref2_May_gok {ρ : Type} (k : Nat) : GOK Tryd.prog (cadastreref2_May_G (ρ := ρ) k) := gok_nil
noncomputable def cadastreref2_May_j8_s {ρ : Type} (k : Nat) : Run UX ρ := fun s K =>
popS 1 s.env fun v1 e2 =>
asP 1 0 v1 <|
popN e2 <|
popB 1 s.hp fun c3 e4 =>
popA c3 fun v5 c6 =>
asI .i64 v5 fun z7 =>
popA c6 fun v8 c9 =>
asI .i64 v8 fun z10 =>
popA c9 fun v11 c12 =>
asS v11 fun z13 =>
popN c12 <|
popN e4 <|
cadastreref2_May_j8 k (fun t2 => K .ret ⟨[(2, .pv (.bool t2))], []⟩) (⟨z7, z10, z13⟩ : S23)
noncomputable def cadastreref2_May_cfg {ρ : Type} (k : Nat) : Cfg UX ρ where
  live i := (assoc [(0, [0]), (1, [1]), (2, [1, 4]), (3, [1]), (4, [1, 4]), (5, [1]), (6, [1, 4]), (7, [1, 4]), (8, [1]), (9, [])] i).getD []
  boxes i := (assoc [(0, []), (1, [1]), (2, [1]), (3, [1]), (4, [1]), (5, [1]), (6, [1]), (7, [1]), (8, [1]), (9, [])] i).getD []
  tk i := (assoc [] i).getD []
  n := 27
  labelR l := (assoc [] l).getD 0
  loops := assoc []
  labels := assoc []
  joins := assoc [(8, cadastreref2_May_j8_s k)]
  xl i e := match e with
    | .nxt => assoc [] i
    | .ret => assoc [(8, ([2], []))] i
    | .exit j => (assoc [] i).bind fun l => assoc l j
    | .goto j => (assoc [] i).bind fun l => assoc l j
noncomputable def cadastreref2_May_L : List Code := selI [] (loopsOf cadastreref2_May_code)
noncomputable def cadastreref2_May_J : List Code := selI [8] (joinsOf cadastreref2_May_code)
noncomputable def cadastreref2_May_S : List Code := scopesOf cadastreref2_May_code
theorem cadastreref2_May_j8_eq0 {ρ : Type} (k : Nat) (K : Ex → St UU → Option ρ) (v1 : S23) : exec UX (cadastreref2_May_cfg k) (cadastreref2_May_G k) (cadastreref2_May_J.getD 0 .skip) ⟨[(1, .ptr 1 0)], [(1, [.pv (.int .i64 v1.f0), .pv (.int .i64 v1.f1), .pv (.str v1.f2)])]⟩ (nrmK UX (cadastreref2_May_cfg k) 8 K) = cadastreref2_May_j8 k (fun t2 => K .ret ⟨[(2, .pv (.bool t2))], []⟩) v1 := by kernel_rfl
theorem cadastreref2_May_j8_ok0 {ρ : Type} (k : Nat) : JoinOK UX (cadastreref2_May_cfg (ρ := ρ) k) (cadastreref2_May_G k) (cadastreref2_May_J.getD 0 .skip) 8 (cadastreref2_May_j8_s k) := by
  intro s K r h
  obtain ⟨env, hp⟩ := s
  unfold cadastreref2_May_j8_s at h
  replace h := popS_inv h; obtain ⟨v1, e2, rfl, h⟩ := h
  replace h := asP_inv h; obtain ⟨rfl, h⟩ := h
  replace h := popN_inv h; obtain ⟨rfl, h⟩ := h
  replace h := popB_inv h; obtain ⟨c3, e4, rfl, h⟩ := h
  replace h := popA_inv h; obtain ⟨v5, c6, rfl, h⟩ := h
  replace h := asI_inv h; obtain ⟨z7, rfl, h⟩ := h
  replace h := popA_inv h; obtain ⟨v8, c9, rfl, h⟩ := h
  replace h := asI_inv h; obtain ⟨z10, rfl, h⟩ := h
  replace h := popA_inv h; obtain ⟨v11, c12, rfl, h⟩ := h
  replace h := asS_inv h; obtain ⟨z13, rfl, h⟩ := h
  replace h := popN_inv h; obtain ⟨rfl, h⟩ := h
  replace h := popN_inv h; obtain ⟨rfl, h⟩ := h
  exact (cadastreref2_May_j8_eq0 k K (⟨z7, z10, z13⟩ : S23)).trans h
theorem cadastreref2_May_cok {ρ : Type} (k : Nat) : COK (cadastreref2_May_cfg (ρ := ρ) k) (cadastreref2_May_G k) cadastreref2_May_code :=
  cok_of (tl := []) (tj := [(8, cadastreref2_May_j8_s k)]) (tb := []) rfl rfl rfl (nil_all (by kernel_rfl)) (all_nth 1 (by kernel_rfl) ⟨join_case (by kernel_rfl) rfl (cadastreref2_May_j8_ok0 k), trivial⟩) (fun p hp => by cases hp)
noncomputable def cadastreref2_May_enc (r : Bool) : AV UU := .pv (.bool r)
noncomputable def cadastreref2_May_dec (v : AV UU) (_ : List (List (AV UU))) : Option Bool :=
asB v fun r0 =>
some r0
theorem cadastreref2_May_dec_enc (v : AV UU) (b : List (List (AV UU))) (r : Bool) (h : cadastreref2_May_dec v b = some r) : v = cadastreref2_May_enc r := by
  unfold cadastreref2_May_dec at h
  replace h := asB_inv h; obtain ⟨r0, rfl, h⟩ := h
  cases h
  rfl
theorem cadastreref2_May_eq (k : Nat) (v0 : S23) : bodyK UX (cadastreref2_May_cfg k) (cadastreref2_May_G k) Tryd.f6 [.pv (.typ (.s23 v0))] [] cadastreref2_May_dec = cadastreref2_May k v0 := by kernel_rfl
theorem cadastreref2_May_con (k : Nat) (v0 : S23) (r : Bool) (h : cadastreref2_May k v0 = some r) : Con (X := UX) Tryd.prog 6 [.pv (.typ (.s23 v0))] [] (cadastreref2_May_enc r) [] :=
  con_of_body xok tok Tryd.func6 cadastreref2_May_body (cadastreref2_May_gok k) rfl (cadastreref2_May_cok k) (of_decide_eq_true (by kernel_rfl)) cadastreref2_May_dec_enc ((cadastreref2_May_eq k v0).trans h)
noncomputable def cadastreref2_May_an {ρ : Type} (k : Nat) : An UX ρ := fun args bx K =>
popA args fun v1 a2 =>
as_s23 v1 fun v0 =>
popN a2 <|
popN bx <|
(cadastreref2_May k v0).bind fun r => K (cadastreref2_May_enc r) []
theorem cadastreref2_May_ok {ρ : Type} (k : Nat) : AnsOK Tryd.prog 6 (cadastreref2_May_an (ρ := ρ) k) := by
  intro args bx K r h
  unfold cadastreref2_May_an at h
  replace h := popA_inv h; obtain ⟨v1, a2, rfl, h⟩ := h
  replace h := as_s23_inv h; obtain ⟨v0, rfl, h⟩ := h
  replace h := popN_inv h; obtain ⟨rfl, h⟩ := h
  replace h := popN_inv h; obtain ⟨rfl, h⟩ := h
  replace h := bind_inv h
  obtain ⟨x, hx, h⟩ := h
  exact ⟨there_of Tryd.func6 (by kernel_rfl) cadastreref2_May_body, _, _, h, cadastreref2_May_con k v0 x hx⟩

/-! cadastre/print.args -/
noncomputable def print_args_code : Code := match Tryd.f75.body with | some c => c | none => .skip
theorem print_args_body : Tryd.f75.body = some print_args_code := by kernel_rfl
noncomputable def print_args_G {ρ : Type} (k : Nat) : Ans UX ρ := gnil
theorem print_args_gok {ρ : Type} (k : Nat) : GOK Tryd.prog (print_args_G (ρ := ρ) k) := gok_nil
noncomputable def print_args_j5_s {ρ : Type} (k : Nat) : Run UX ρ := fun s K =>
popS 0 s.env fun v1 e2 =>
asI .i64 v1 fun op0 =>
popN e2 <|
popN s.hp <|
print_args_j5 k (fun t2 => K .ret ⟨[(2, .pv (.int .i64 t2))], []⟩) (K .nxt ⟨[], []⟩) op0
noncomputable def print_args_j3_s {ρ : Type} (k : Nat) : Run UX ρ := fun s K =>
popS 0 s.env fun v1 e2 =>
asI .i64 v1 fun op0 =>
popN e2 <|
popN s.hp <|
print_args_j3 k (fun t2 => K .ret ⟨[(2, .pv (.int .i64 t2))], []⟩) (K .nxt ⟨[], []⟩) op0
noncomputable def print_args_cfg {ρ : Type} (k : Nat) : Cfg UX ρ where
  live i := (assoc [(0, [0]), (1, [0]), (2, []), (3, [0]), (4, []), (5, [0]), (6, []), (7, [])] i).getD []
  boxes i := (assoc [(0, []), (1, []), (2, []), (3, []), (4, []), (5, []), (6, []), (7, [])] i).getD []
  tk i := (assoc [] i).getD []
  n := 36
  labelR l := (assoc [] l).getD 0
  loops := assoc []
  labels := assoc []
  joins := assoc [(5, print_args_j5_s k), (3, print_args_j3_s k)]
  xl i e := match e with
    | .nxt => assoc [(5, ([], [])), (3, ([], []))] i
    | .ret => assoc [(5, ([2], [])), (3, ([2], []))] i
    | .exit j => (assoc [] i).bind fun l => assoc l j
    | .goto j => (assoc [] i).bind fun l => assoc l j
noncomputable def print_args_L : List Code := selI [] (loopsOf print_args_code)
noncomputable def print_args_J : List Code := selI [5, 3] (joinsOf print_args_code)
noncomputable def print_args_S : List Code := scopesOf print_args_code
theorem print_args_j3_eq0 {ρ : Type} (k : Nat) (K : Ex → St UU → Option ρ) (op0 : Int) : exec UX (print_args_cfg k) (print_args_G k) (print_args_J.getD 0 .skip) ⟨[(0, .pv (.int .i64 op0))], []⟩ (nrmK UX (print_args_cfg k) 3 K) = print_args_j3 k (fun t2 => K .ret ⟨[(2, .pv (.int .i64 t2))], []⟩) (K .nxt ⟨[], []⟩) op0 := by kernel_rfl
theorem print_args_j3_ok0 {ρ : Type} (k : Nat) : JoinOK UX (print_args_cfg (ρ := ρ) k) (print_args_G k) (print_args_J.getD 0 .skip) 3 (print_args_j3_s k) := by
  intro s K r h
  obtain ⟨env, hp⟩ := s
  unfold print_args_j3_s at h
  replace h := popS_inv h; obtain ⟨v1, e2, rfl, h⟩ := h
  replace h := asI_inv h; obtain ⟨op0, rfl, h⟩ := h
  replace h := popN_inv h; obtain ⟨rfl, h⟩ := h
  replace h := popN_inv h; obtain ⟨rfl, h⟩ := h
  exact (print_args_j3_eq0 k K op0).trans h
theorem print_args_j5_eq1 {ρ : Type} (k : Nat) (K : Ex → St UU → Option ρ) (op0 : Int) : exec UX (print_args_cfg k) (print_args_G k) (print_args_J.getD 1 .skip) ⟨[(0, .pv (.int .i64 op0))], []⟩ (nrmK UX (print_args_cfg k) 5 K) = print_args_j5 k (fun t2 => K .ret ⟨[(2, .pv (.int .i64 t2))], []⟩) (K .nxt ⟨[], []⟩) op0 := by kernel_rfl
theorem print_args_j5_ok1 {ρ : Type} (k : Nat) : JoinOK UX (print_args_cfg (ρ := ρ) k) (print_args_G k) (print_args_J.getD 1 .skip) 5 (print_args_j5_s k) := by
  intro s K r h
  obtain ⟨env, hp⟩ := s
  unfold print_args_j5_s at h
  replace h := popS_inv h; obtain ⟨v1, e2, rfl, h⟩ := h
  replace h := asI_inv h; obtain ⟨op0, rfl, h⟩ := h
  replace h := popN_inv h; obtain ⟨rfl, h⟩ := h
  replace h := popN_inv h; obtain ⟨rfl, h⟩ := h
  exact (print_args_j5_eq1 k K op0).trans h
theorem print_args_cok {ρ : Type} (k : Nat) : COK (print_args_cfg (ρ := ρ) k) (print_args_G k) print_args_code :=
  cok_of (tl := []) (tj := [(5, print_args_j5_s k), (3, print_args_j3_s k)]) (tb := []) rfl rfl rfl (nil_all (by kernel_rfl)) (all_nth 2 (by kernel_rfl) ⟨join_case (by kernel_rfl) rfl (print_args_j5_ok1 k), join_case (by kernel_rfl) rfl (print_args_j3_ok0 k), trivial⟩) (fun p hp => by cases hp)
noncomputable def print_args_enc (r : Int) : AV UU := .pv (.int .i64 r)
noncomputable def print_args_dec (v : AV UU) (_ : List (List (AV UU))) : Option Int :=
asI .i64 v fun r0 =>
some r0
theorem print_args_dec_enc (v : AV UU) (b : List (List (AV UU))) (r : Int) (h : print_args_dec v b = some r) : v = print_args_enc r := by
  unfold print_args_dec at h
  replace h := asI_inv h; obtain ⟨r0, rfl, h⟩ := h
  cases h
  rfl
theorem print_args_eq (k : Nat) (op0 : Int) : bodyK UX (print_args_cfg k) (print_args_G k) Tryd.f75 [.pv (.int .i64 op0)] [] print_args_dec = print_args k op0 := by kernel_rfl
theorem print_args_con (k : Nat) (op0 : Int) (r : Int) (h : print_args k op0 = some r) : Con (X := UX) Tryd.prog 75 [.pv (.int .i64 op0)] [] (print_args_enc r) [] :=
  con_of_body xok tok Tryd.func75 print_args_body (print_args_gok k) rfl (print_args_cok k) (of_decide_eq_true (by kernel_rfl)) print_args_dec_enc ((print_args_eq k op0).trans h)
noncomputable def print_args_an {ρ : Type} (k : Nat) : An UX ρ := fun args bx K =>
popA args fun v1 a2 =>
asI .i64 v1 fun op0 =>
popN a2 <|
popN bx <|
(print_args k op0).bind fun r => K (print_args_enc r) []
theorem print_args_ok {ρ : Type} (k : Nat) : AnsOK Tryd.prog 75 (print_args_an (ρ := ρ) k) := by
  intro args bx K r h
  unfold print_args_an at h
  replace h := popA_inv h; obtain ⟨v1, a2, rfl, h⟩ := h
  replace h := asI_inv h; obtain ⟨op0, rfl, h⟩ := h
  replace h := popN_inv h; obtain ⟨rfl, h⟩ := h
  replace h := popN_inv h; obtain ⟨rfl, h⟩ := h
  replace h := bind_inv h
  obtain ⟨x, hx, h⟩ := h
  exact ⟨there_of Tryd.func75 (by kernel_rfl) print_args_body, _, _, h, print_args_con k op0 x hx⟩

/-! cadastre/value.Good -/
noncomputable def value_Good_code : Code := match Tryd.f61.body with | some c => c | none => .skip
theorem value_Good_body : Tryd.f61.body = some value_Good_code := by kernel_rfl
noncomputable def value_Good_G {ρ : Type} (k : Nat) : Ans UX ρ := gnil
theorem value_Good_gok {ρ : Type} (k : Nat) : GOK Tryd.prog (value_Good_G (ρ := ρ) k) := gok_nil
noncomputable def value_Good_j8_s {ρ : Type} (k : Nat) : Run UX ρ := fun s K =>
popS 1 s.env fun v1 e2 =>
asP 1 0 v1 <|
popN e2 <|
popB 1 s.hp fun c3 e4 =>
popA c3 fun v5 c6 =>
asI .i64 v5 fun z7 =>
popA c6 fun v8 c9 =>
asI .i64 v8 fun z10 =>
popA c9 fun v11 c12 =>
asS v11 fun z13 =>
popN c12 <|
popN e4 <|
value_Good_j8 k (fun t2 => K .ret ⟨[(2, .pv (.bool t2))], []⟩) (⟨z7, z10, z13⟩ : S23)
noncomputable def value_Good_cfg {ρ : Type} (k : Nat) : Cfg UX ρ where
  live i := (assoc [(0, [0]), (1, [1]), (2, [1, 4]), (3, [1]), (4, [1, 4]), (5, [1]), (6, [1, 4]), (7, [1, 4]), (8, [1]), (9, [])] i).getD []
  boxes i := (assoc [(0, []), (1, [1]), (2, [1]), (3, [1]), (4, [1]), (5, [1]), (6, [1]), (7, [1]), (8, [1]), (9, [])] i).getD []
  tk i := (assoc [] i).getD []
  n := 27
  labelR l := (assoc [] l).getD 0
  loops := assoc []
  labels := assoc []
  joins := assoc [(8, value_Good_j8_s k)]
  xl i e := match e with
    | .nxt => assoc [] i
    | .ret => assoc [(8, ([2], []))] i
    | .exit j => (assoc [] i).bind fun l => assoc l j
    | .goto j => (assoc [] i).bind fun l => assoc l j
noncomputable def value_Good_L : List Code := selI [] (loopsOf value_Good_code)
noncomputable def value_Good_J : List Code := selI [8] (joinsOf value_Good_code)
noncomputable def value_Good_S : List Code := scopesOf value_Good_code
theorem value_Good_j8_eq0 {ρ : Type} (k : Nat) (K : Ex → St UU → Option ρ) (v1 : S23) : exec UX (value_Good_cfg k) (value_Good_G k) (value_Good_J.getD 0 .skip) ⟨[(1, .ptr 1 0)], [(1, [.pv (.int .i64 v1.f0), .pv (.int .i64 v1.f1), .pv (.str v1.f2)])]⟩ (nrmK UX (value_Good_cfg k) 8 K) = value_Good_j8 k (fun t2 => K .ret ⟨[(2, .pv (.bool t2))], []⟩) v1 := by kernel_rfl
theorem value_Good_j8_ok0 {ρ : Type} (k : Nat) : JoinOK UX (value_Good_cfg (ρ := ρ) k) (value_Good_G k) (value_Good_J.getD 0 .skip) 8 (value_Good_j8_s k) := by
  intro s K r h
  obtain ⟨env, hp⟩ := s
  unfold value_Good_j8_s at h
  replace h := popS_inv h; obtain ⟨v1, e2, rfl, h⟩ := h
  replace h := asP_inv h; obtain ⟨rfl, h⟩ := h
  replace h := popN_inv h; obtain ⟨rfl, h⟩ := h
  replace h := popB_inv h; obtain ⟨c3, e4, rfl, h⟩ := h
  replace h := popA_inv h; obtain ⟨v5, c6, rfl, h⟩ := h
  replace h := asI_inv h; obtain ⟨z7, rfl, h⟩ := h
  replace h := popA_inv h; obtain ⟨v8, c9, rfl, h⟩ := h
  replace h := asI_inv h; obtain ⟨z10, rfl, h⟩ := h
  replace h := popA_inv h; obtain ⟨v11, c12, rfl, h⟩ := h
  replace h := asS_inv h; obtain ⟨z13, rfl, h⟩ := h
  replace h := popN_inv h; obtain ⟨rfl, h⟩ := h
  replace h := popN_inv h; obtain ⟨rfl, h⟩ := h
  exact (value_Good_j8_eq0 k K (⟨z7, z10, z13⟩ : S23)).trans h
theorem value_Good_cok {ρ : Type} (k : Nat) : COK (value_Good_cfg (ρ := ρ) k) (value_Good_G k) value_Good_code :=
  cok_of (tl := []) (tj := [(8, value_Good_j8_s k)]) (tb := []) rfl rfl rfl (nil_all (by kernel_rfl)) (all_nth 1 (by kernel_rfl) ⟨join_case (by kernel_rfl) rfl (value_Good_j8_ok0 k), trivial⟩) (fun p hp => by cases hp)
noncomputable def value_Good_enc (r : Bool) : AV UU := .pv (.bool r)
noncomputable def value_Good_dec (v : AV UU) (_ : List (List (AV UU))) : Option Bool :=
asB v fun r0 =>
some r0
theorem value_Good_dec_enc (v : AV UU) (b : List (List (AV UU))) (r : Bool) (h : value_Good_dec v b = some r) : v = value_Good_enc r := by
  unfold value_Good_dec at h
  replace h := asB_inv h; obtain ⟨r0, rfl, h⟩ := h
  cases h
  rfl
theorem value_Good_eq (k : Nat) (v0 : S23) : bodyK UX (value_Good_cfg k) (value_Good_G k) Tryd.f61 [.pv (.typ (.s23 v0))] [] value_Good_dec = value_Good k v0 := by kernel_rfl
theorem value_Good_con (k : Nat) (v0 : S23) (r : Bool) (h : value_Good k v0 = some r) : Con (X := UX) Tryd.prog 61 [.pv (.typ (.s23 v0))] [] (value_Good_enc r) [] :=
  con_of_body xok tok Tryd.func61 value_Good_body (value_Good_gok k) rfl (value_Good_cok k) (of_decide_eq_true (by kernel_rfl)) value_Good_dec_enc ((value_Good_eq k v0).trans h)
noncomputable def value_Good_an {ρ : Type} (k : Nat) : An UX ρ := fun args bx K =>
popA args fun v1 a2 =>
as_s23 v1 fun v0 =>
popN a2 <|
popN bx <|
(value_Good k v0).bind fun r => K (value_Good_enc r) []
theorem value_Good_ok {ρ : Type} (k : Nat) : AnsOK Tryd.prog 61 (value_Good_an (ρ := ρ) k) := by
  intro args bx K r h
  unfold value_Good_an at h
  replace h := popA_inv h; obtain ⟨v1, a2, rfl, h⟩ := h
  replace h := as_s23_inv h; obtain ⟨v0, rfl, h⟩ := h
  replace h := popN_inv h; obtain ⟨rfl, h⟩ := h
  replace h := popN_inv h; obtain ⟨rfl, h⟩ := h
  replace h := bind_inv h
  obtain ⟨x, hx, h⟩ := h
  exact ⟨there_of Tryd.func61 (by kernel_rfl) value_Good_body, _, _, h, value_Good_con k v0 x hx⟩

/-! cadastre/print.literal -/
noncomputable def print_literal_code : Code := match Tryd.f76.body with | some c => c | none => .skip
theorem print_literal_body : Tryd.f76.body = some print_literal_code := by kernel_rfl
noncomputable def print_literal_G {ρ : Type} (k : Nat) : Ans UX ρ := gk 61 (value_Good_an k) (gnil)
theorem print_literal_gok {ρ : Type} (k : Nat) : GOK Tryd.prog (print_literal_G (ρ := ρ) k) := gok_cons (value_Good_ok k) (gok_nil)
noncomputable def print_literal_cfg {ρ : Type} (k : Nat) : Cfg UX ρ where
  live i := (assoc [(0, [0]), (1, [1])] i).getD []
  boxes i := (assoc [(0, []), (1, [1])] i).getD []
  tk i := (assoc [] i).getD []
  n := 15
  labelR l := (assoc [] l).getD 0
  loops := assoc []
  labels := assoc []
  joins := assoc []
  xl i e := match e with
    | .nxt => assoc [] i
    | .ret => assoc [] i
    | .exit j => (assoc [] i).bind fun l => assoc l j
    | .goto j => (assoc [] i).bind fun l => assoc l j
noncomputable def print_literal_L : List Code := selI [] (loopsOf print_literal_code)
noncomputable def print_literal_J : List Code := selI [] (joinsOf print_literal_code)
noncomputable def print_literal_S : List Code := scopesOf print_literal_code
theorem print_literal_cok {ρ : Type} (k : Nat) : COK (print_literal_cfg (ρ := ρ) k) (print_literal_G k) print_literal_code :=
  cok_of (tl := []) (tj := []) (tb := []) rfl rfl rfl (nil_all (by kernel_rfl)) (nil_all (by kernel_rfl)) (fun p hp => by cases hp)
noncomputable def print_literal_enc (r : Bool) : AV UU := .pv (.bool r)
noncomputable def print_literal_dec (v : AV UU) (_ : List (List (AV UU))) : Option Bool :=
asB v fun r0 =>
some r0
theorem print_literal_dec_enc (v : AV UU) (b : List (List (AV UU))) (r : Bool) (h : print_literal_dec v b = some r) : v = print_literal_enc r := by
  unfold print_literal_dec at h
  replace h := asB_inv h; obtain ⟨r0, rfl, h⟩ := h
  cases h
  rfl
theorem print_literal_eq (k : Nat) (v0 : S23) : bodyK UX (print_literal_cfg k) (print_literal_G k) Tryd.f76 [.pv (.typ (.s23 v0))] [] print_literal_dec = print_literal k v0 := by kernel_rfl
theorem print_literal_con (k : Nat) (v0 : S23) (r : Bool) (h : print_literal k v0 = some r) : Con (X := UX) Tryd.prog 76 [.pv (.typ (.s23 v0))] [] (print_literal_enc r) [] :=
  con_of_body xok tok Tryd.func76 print_literal_body (print_literal_gok k) rfl (print_literal_cok k) (of_decide_eq_true (by kernel_rfl)) print_literal_dec_enc ((print_literal_eq k v0).trans h)
noncomputable def print_literal_an {ρ : Type} (k : Nat) : An UX ρ := fun args bx K =>
popA args fun v1 a2 =>
as_s23 v1 fun v0 =>
popN a2 <|
popN bx <|
(print_literal k v0).bind fun r => K (print_literal_enc r) []
theorem print_literal_ok {ρ : Type} (k : Nat) : AnsOK Tryd.prog 76 (print_literal_an (ρ := ρ) k) := by
  intro args bx K r h
  unfold print_literal_an at h
  replace h := popA_inv h; obtain ⟨v1, a2, rfl, h⟩ := h
  replace h := as_s23_inv h; obtain ⟨v0, rfl, h⟩ := h
  replace h := popN_inv h; obtain ⟨rfl, h⟩ := h
  replace h := popN_inv h; obtain ⟨rfl, h⟩ := h
  replace h := bind_inv h
  obtain ⟨x, hx, h⟩ := h
  exact ⟨there_of Tryd.func76 (by kernel_rfl) print_literal_body, _, _, h, print_literal_con k v0 x hx⟩

/-! internal/stringslite.HasPrefix -/
noncomputable def stringslite_HasPrefix_code : Code := match Tryd.f139.body with | some c => c | none => .skip
theorem stringslite_HasPrefix_body : Tryd.f139.body = some stringslite_HasPrefix_code := by kernel_rfl
noncomputable def stringslite_HasPrefix_G {ρ : Type} (k : Nat) : Ans UX ρ := gnil
theorem stringslite_HasPrefix_gok {ρ : Type} (k : Nat) : GOK Tryd.prog (stringslite_HasPrefix_G (ρ := ρ) k) := gok_nil
noncomputable def stringslite_HasPrefix_cfg {ρ : Type} (k : Nat) : Cfg UX ρ where
  live i := (assoc [(0, [0, 1]), (1, [0, 1])] i).getD []
  boxes i := (assoc [(0, []), (1, [])] i).getD []
  tk i := (assoc [] i).getD []
  n := 18
  labelR l := (assoc [] l).getD 0
  loops := assoc []
  labels := assoc []
  joins := assoc []
  xl i e := match e with
    | .nxt => assoc [] i
    | .ret => assoc [] i
    | .exit j => (assoc [] i).bind fun l => assoc l j
    | .goto j => (assoc [] i).bind fun l => assoc l j
noncomputable def stringslite_HasPrefix_L : List Code := selI [] (loopsOf stringslite_HasPrefix_code)
noncomputable def stringslite_HasPrefix_J : List Code := selI [] (joinsOf stringslite_HasPrefix_code)
noncomputable def stringslite_HasPrefix_S : List Code := scopesOf stringslite_HasPrefix_code
theorem stringslite_HasPrefix_cok {ρ : Type} (k : Nat) : COK (stringslite_HasPrefix_cfg (ρ := ρ) k) (stringslite_HasPrefix_G k) stringslite_HasPrefix_code :=
  cok_of (tl := []) (tj := []) (tb := []) rfl rfl rfl (nil_all (by kernel_rfl)) (nil_all (by kernel_rfl)) (fun p hp => by cases hp)
noncomputable def stringslite_HasPrefix_enc (r : Bool) : AV UU := .pv (.bool r)
noncomputable def stringslite_HasPrefix_dec (v : AV UU) (_ : List (List (AV UU))) : Option Bool :=
asB v fun r0 =>
some r0
theorem stringslite_HasPrefix_dec_enc (v : AV UU) (b : List (List (AV UU))) (r : Bool) (h : stringslite_HasPrefix_dec v b = some r) : v = stringslite_HasPrefix_enc r := by
  unfold stringslite_HasPrefix_dec at h
  replace h := asB_inv h; obtain ⟨r0, rfl, h⟩ := h
  cases h
  rfl
theorem stringslite_HasPrefix_eq (k : Nat) (s0 : ByteArray) (prefix1 : ByteArray) : bodyK UX (stringslite_HasPrefix_cfg k) (stringslite_HasPrefix_G k) Tryd.f139 [.pv (.str s0), .pv (.str prefix1)] [] stringslite_HasPrefix_dec = stringslite_HasPrefix k s0 prefix1 := by kernel_rfl
theorem stringslite_HasPrefix_con (k : Nat) (s0 : ByteArray) (prefix1 : ByteArray) (r : Bool) (h : stringslite_HasPrefix k s0 prefix1 = some r) : Con (X := UX) Tryd.prog 139 [.pv (.str s0), .pv (.str prefix1)] [] (stringslite_HasPrefix_enc r) [] :=
  con_of_body xok tok Tryd.func139 stringslite_HasPrefix_body (stringslite_HasPrefix_gok k) rfl (stringslite_HasPrefix_cok k) (of_decide_eq_true (by kernel_rfl)) stringslite_HasPrefix_dec_enc ((stringslite_HasPrefix_eq k s0 prefix1).trans h)
noncomputable def stringslite_HasPrefix_an {ρ : Type} (k : Nat) : An UX ρ := fun args bx K =>
popA args fun v1 a2 =>
asS v1 fun s0 =>
popA a2 fun v3 a4 =>
asS v3 fun prefix1 =>
popN a4 <|
popN bx <|
(stringslite_HasPrefix k s0 prefix1).bind fun r => K (stringslite_HasPrefix_enc r) []
theorem stringslite_HasPrefix_ok {ρ : Type} (k : Nat) : AnsOK Tryd.prog 139 (stringslite_HasPrefix_an (ρ := ρ) k) := by
  intro args bx K r h
  unfold stringslite_HasPrefix_an at h
  replace h := popA_inv h; obtain ⟨v1, a2, rfl, h⟩ := h
  replace h := asS_inv h; obtain ⟨s0, rfl, h⟩ := h
  replace h := popA_inv h; obtain ⟨v3, a4, rfl, h⟩ := h
  replace h := asS_inv h; obtain ⟨prefix1, rfl, h⟩ := h
  replace h := popN_inv h; obtain ⟨rfl, h⟩ := h
  replace h := popN_inv h; obtain ⟨rfl, h⟩ := h
  replace h := bind_inv h
  obtain ⟨x, hx, h⟩ := h
  exact ⟨there_of Tryd.func139 (by kernel_rfl) stringslite_HasPrefix_body, _, _, h, stringslite_HasPrefix_con k s0 prefix1 x hx⟩

/-! strings.HasPrefix -/
noncomputable def strings_HasPrefix_code : Code := match Tryd.f125.body with | some c => c | none => .skip
theorem strings_HasPrefix_body : Tryd.f125.body = some strings_HasPrefix_code := by kernel_rfl
noncomputable def strings_HasPrefix_G {ρ : Type} (k : Nat) : Ans UX ρ := gk 139 (stringslite_HasPrefix_an k) (gnil)
theorem strings_HasPrefix_gok {ρ : Type} (k : Nat) : GOK Tryd.prog (strings_HasPrefix_G (ρ := ρ) k) := gok_cons (stringslite_HasPrefix_ok k) (gok_nil)
noncomputable def strings_HasPrefix_cfg {ρ : Type} (k : Nat) : Cfg UX ρ where
  live i := (assoc [(0, [0, 1]), (1, [0, 1])] i).getD []
  boxes i := (assoc [(0, []), (1, [])] i).getD []
  tk i := (assoc [] i).getD []
  n := 8
  labelR l := (assoc [] l).getD 0
  loops := assoc []
  labels := assoc []
  joins := assoc []
  xl i e := match e with
    | .nxt => assoc [] i
    | .ret => assoc [] i
    | .exit j => (assoc [] i).bind fun l => assoc l j
    | .goto j => (assoc [] i).bind fun l => assoc l j
noncomputable def strings_HasPrefix_L : List Code := selI [] (loopsOf strings_HasPrefix_code)
noncomputable def strings_HasPrefix_J : List Code := selI [] (joinsOf strings_HasPrefix_code)
noncomputable def strings_HasPrefix_S : List Code := scopesOf strings_HasPrefix_code
theorem strings_HasPrefix_cok {ρ : Type} (k : Nat) : COK (strings_HasPrefix_cfg (ρ := ρ) k) (strings_HasPrefix_G k) strings_HasPrefix_code :=
  cok_of (tl := []) (tj := []) (tb := []) rfl rfl rfl (nil_all (by kernel_rfl)) (nil_all (by kernel_rfl)) (fun p hp => by cases hp)
noncomputable def strings_HasPrefix_enc (r : Bool) : AV UU := .pv (.bool r)
noncomputable def strings_HasPrefix_dec (v : AV UU) (_ : List (List (AV UU))) : Option Bool :=
asB v fun r0 =>
some r0
theorem strings_HasPrefix_dec_enc (v : AV UU) (b : List (List (AV UU))) (r : Bool) (h : strings_HasPrefix_dec v b = some r) : v = strings_HasPrefix_enc r := by
  unfold strings_HasPrefix_dec at h
  replace h := asB_inv h; obtain ⟨r0, rfl, h⟩ := h
  cases h
  rfl
theorem strings_HasPrefix_eq (k : Nat) (s0 : ByteArray) (prefix1 : ByteArray) : bodyK UX (strings_HasPrefix_cfg k) (strings_HasPrefix_G k) Tryd.f125 [.pv (.str s0), .pv (.str prefix1)] [] strings_HasPrefix_dec = strings_HasPrefix k s0 prefix1 := by kernel_rfl
theorem strings_HasPrefix_con (k : Nat) (s0 : ByteArray) (prefix1 : ByteArray) (r : Bool) (h : strings_HasPrefix k s0 prefix1 = some r) : Con (X := UX) Tryd.prog 125 [.pv (.str s0), .pv (.str prefix1)] [] (strings_HasPrefix_enc r) [] :=
  con_of_body xok tok Tryd.func125 strings_HasPrefix_body (strings_HasPrefix_gok k) rfl (strings_HasPrefix_cok k) (of_decide_eq_true (by kernel_rfl)) strings_HasPrefix_dec_enc ((strings_HasPrefix_eq k s0 prefix1).trans h)
noncomputable def strings_HasPrefix_an {ρ : Type} (k : Nat) : An UX ρ := fun args bx K =>
popA args fun v1 a2 =>
asS v1 fun s0 =>
popA a2 fun v3 a4 =>
asS v3 fun prefix1 =>
popN a4 <|
popN bx <|
(strings_HasPrefix k s0 prefix1).bind fun r => K (strings_HasPrefix_enc r) []
theorem strings_HasPrefix_ok {ρ : Type} (k : Nat) : AnsOK Tryd.prog 125 (strings_HasPrefix_an (ρ := ρ) k) := by
  intro args bx K r h
  unfold strings_HasPrefix_an at h
  replace h := popA_inv h; obtain ⟨v1, a2, rfl, h⟩ := h
  replace h := asS_inv h; obtain ⟨s0, rfl, h⟩ := h
  replace h := popA_inv h; obtain ⟨v3, a4, rfl, h⟩ := h
  replace h := asS_inv h; obtain ⟨prefix1, rfl, h⟩ := h
  replace h := popN_inv h; obtain ⟨rfl, h⟩ := h
  replace h := popN_inv h; obtain ⟨rfl, h⟩ := h
  replace h := bind_inv h
  obtain ⟨x, hx, h⟩ := h
  exact ⟨there_of Tryd.func125 (by kernel_rfl) strings_HasPrefix_body, _, _, h, strings_HasPrefix_con k s0 prefix1 x hx⟩

/-! cadastre/lex.skip$1 -/
noncomputable def lex_skip_1_code : Code := match Tryd.f124.body with | some c => c | none => .skip
theorem lex_skip_1_body : Tryd.f124.body = some lex_skip_1_code := by kernel_rfl
noncomputable def lex_skip_1_G {ρ : Type} (k : Nat) : Ans UX ρ := gnil
theorem lex_skip_1_gok {ρ : Type} (k : Nat) : GOK Tryd.prog (lex_skip_1_G (ρ := ρ) k) := gok_nil
noncomputable def lex_skip_1_cfg {ρ : Type} (k : Nat) : Cfg UX ρ where
  live i := (assoc [(0, [0]), (1, [0])] i).getD []
  boxes i := (assoc [(0, []), (1, [])] i).getD []
  tk i := (assoc [] i).getD []
  n := 17
  labelR l := (assoc [] l).getD 0
  loops := assoc []
  labels := assoc []
  joins := assoc []
  xl i e := match e with
    | .nxt => assoc [] i
    | .ret => assoc [] i
    | .exit j => (assoc [] i).bind fun l => assoc l j
    | .goto j => (assoc [] i).bind fun l => assoc l j
noncomputable def lex_skip_1_L : List Code := selI [] (loopsOf lex_skip_1_code)
noncomputable def lex_skip_1_J : List Code := selI [] (joinsOf lex_skip_1_code)
noncomputable def lex_skip_1_S : List Code := scopesOf lex_skip_1_code
theorem lex_skip_1_cok {ρ : Type} (k : Nat) : COK (lex_skip_1_cfg (ρ := ρ) k) (lex_skip_1_G k) lex_skip_1_code :=
  cok_of (tl := []) (tj := []) (tb := []) rfl rfl rfl (nil_all (by kernel_rfl)) (nil_all (by kernel_rfl)) (fun p hp => by cases hp)
noncomputable def lex_skip_1_enc (r : Bool) : AV UU := .pv (.bool r)
noncomputable def lex_skip_1_dec (v : AV UU) (_ : List (List (AV UU))) : Option Bool :=
asB v fun r0 =>
some r0
theorem lex_skip_1_dec_enc (v : AV UU) (b : List (List (AV UU))) (r : Bool) (h : lex_skip_1_dec v b = some r) : v = lex_skip_1_enc r := by
  unfold lex_skip_1_dec at h
  replace h := asB_inv h; obtain ⟨r0, rfl, h⟩ := h
  cases h
  rfl
theorem lex_skip_1_eq (k : Nat) (c0 : Int) : bodyK UX (lex_skip_1_cfg k) (lex_skip_1_G k) Tryd.f124 [.pv (.int .u8 c0)] [] lex_skip_1_dec = lex_skip_1 k c0 := by kernel_rfl
theorem lex_skip_1_con (k : Nat) (c0 : Int) (r : Bool) (h : lex_skip_1 k c0 = some r) : Con (X := UX) Tryd.prog 124 [.pv (.int .u8 c0)] [] (lex_skip_1_enc r) [] :=
  con_of_body xok tok Tryd.func124 lex_skip_1_body (lex_skip_1_gok k) rfl (lex_skip_1_cok k) (of_decide_eq_true (by kernel_rfl)) lex_skip_1_dec_enc ((lex_skip_1_eq k c0).trans h)
noncomputable def lex_skip_1_an {ρ : Type} (k : Nat) : An UX ρ := fun args bx K =>
popA args fun v1 a2 =>
asI .u8 v1 fun c0 =>
popN a2 <|
popN bx <|
(lex_skip_1 k c0).bind fun r => K (lex_skip_1_enc r) []
theorem lex_skip_1_ok {ρ : Type} (k : Nat) : AnsOK Tryd.prog 124 (lex_skip_1_an (ρ := ρ) k) := by
  intro args bx K r h
  unfold lex_skip_1_an at h
  replace h := popA_inv h; obtain ⟨v1, a2, rfl, h⟩ := h
  replace h := asI_inv h; obtain ⟨c0, rfl, h⟩ := h
  replace h := popN_inv h; obtain ⟨rfl, h⟩ := h
  replace h := popN_inv h; obtain ⟨rfl, h⟩ := h
  replace h := bind_inv h
  obtain ⟨x, hx, h⟩ := h
  exact ⟨there_of Tryd.func124 (by kernel_rfl) lex_skip_1_body, _, _, h, lex_skip_1_con k c0 x hx⟩

/-! cadastre/lex.span -/
noncomputable def lex_span_f124_code : Code := match Tryd.f123.body with | some c => c | none => .skip
theorem lex_span_f124_body : Tryd.f123.body = some lex_span_f124_code := by kernel_rfl
noncomputable def lex_span_f124_G {ρ : Type} (k : Nat) : Ans UX ρ := gk 124 (lex_skip_1_an k) (gnil)
theorem lex_span_f124_gok {ρ : Type} (k : Nat) : GOK Tryd.prog (lex_span_f124_G (ρ := ρ) k) := gok_cons (lex_skip_1_ok k) (gok_nil)
noncomputable def lex_span_f124_l1_s {ρ : Type} (k : Nat) : Run UX ρ := fun s K =>
popS 0 s.env fun v1 e2 =>
asS v1 fun s0 =>
popS 1 e2 fun v3 e4 =>
asI .i64 v3 fun at1 =>
popS 2 e4 fun v5 e6 =>
asF 124 v5 fun fa7 fb8 =>
popN fa7 <|
popN fb8 <|
popN e6 <|
popN s.hp <|
lex_span_f124_l1 k (fun at1 => K (.exit 0) ⟨[(1, .pv (.int .i64 at1))], []⟩) k s0 at1
noncomputable def lex_span_f124_cfg {ρ : Type} (k : Nat) : Cfg UX ρ where
  live i := (assoc [(0, [0, 1, 2]), (1, [0, 1, 2]), (2, [0, 1, 2]), (3, [1])] i).getD []
  boxes i := (assoc [(0, []), (1, []), (2, []), (3, [])] i).getD []
  tk i := (assoc [] i).getD []
  n := 21
  labelR l := (assoc [] l).getD 0
  loops := assoc [(1, lex_span_f124_l1_s k)]
  labels := assoc []
  joins := assoc []
  xl i e := match e with
    | .nxt => assoc [] i
    | .ret => assoc [] i
    | .exit j => (assoc [(1, [(0, ([1], []))])] i).bind fun l => assoc l j
    | .goto j => (assoc [] i).bind fun l => assoc l j
noncomputable def lex_span_f124_L : List Code := selI [1] (loopsOf lex_span_f124_code)
noncomputable def lex_span_f124_J : List Code := selI [] (joinsOf lex_span_f124_code)
noncomputable def lex_span_f124_S : List Code := scopesOf lex_span_f124_code
theorem lex_span_f124_l1_eq0 {ρ : Type} (k : Nat) (K : Ex → St UU → Option ρ) : ∀ (n : Nat) (v : ByteArray × Int), iterK UX (fun s => s.at (lex_span_f124_cfg (ρ := ρ) k).live (lex_span_f124_cfg (ρ := ρ) k).boxes (some 1)) (exec UX (lex_span_f124_cfg k) (lex_span_f124_G k) (lex_span_f124_L.getD 0 .skip)) n ⟨[(0, .pv (.str v.1)), (1, .pv (.int .i64 v.2)), (2, .fn 124 [] [])], []⟩ (nrmK UX (lex_span_f124_cfg k) 1 K) = lex_span_f124_l1 k (fun at1 => K (.exit 0) ⟨[(1, .pv (.int .i64 at1))], []⟩) n v.1 v.2 :=
  iter_rec (X := UX) (fun v => ⟨[(0, .pv (.str v.1)), (1, .pv (.int .i64 v.2)), (2, .fn 124 [] [])], []⟩) (fun rec v => lex_span_f124_l1_b k (fun at1 => K (.exit 0) ⟨[(1, .pv (.int .i64 at1))], []⟩) (fun s0 at1 => rec (s0, at1)) v.1 v.2) (fun n v => lex_span_f124_l1 k (fun at1 => K (.exit 0) ⟨[(1, .pv (.int .i64 at1))], []⟩) n v.1 v.2) (fun n v => by kernel_rfl) (fun _ => rfl) (fun _ _ => rfl)
theorem lex_span_f124_l1_ok0 {ρ : Type} (k : Nat) : IterOK UX (lex_span_f124_cfg (ρ := ρ) k) (lex_span_f124_G k) (lex_span_f124_L.getD 0 .skip) 1 (lex_span_f124_l1_s k) := by
  intro s K r h
  obtain ⟨env, hp⟩ := s
  unfold lex_span_f124_l1_s at h
  replace h := popS_inv h; obtain ⟨v1, e2, rfl, h⟩ := h
  replace h := asS_inv h; obtain ⟨s0, rfl, h⟩ := h
  replace h := popS_inv h; obtain ⟨v3, e4, rfl, h⟩ := h
  replace h := asI_inv h; obtain ⟨at1, rfl, h⟩ := h
  replace h := popS_inv h; obtain ⟨v5, e6, rfl, h⟩ := h
  replace h := asF_inv h; obtain ⟨fa7, fb8, rfl, h⟩ := h
  replace h := popN_inv h; obtain ⟨rfl, h⟩ := h
  replace h := popN_inv h; obtain ⟨rfl, h⟩ := h
  replace h := popN_inv h; obtain ⟨rfl, h⟩ := h
  replace h := popN_inv h; obtain ⟨rfl, h⟩ := h
  exact ⟨k, (lex_span_f124_l1_eq0 k K k (s0, at1)).trans h⟩
theorem lex_span_f124_cok {ρ : Type} (k : Nat) : COK (lex_span_f124_cfg (ρ := ρ) k) (lex_span_f124_G k) lex_span_f124_code :=
  cok_of (tl := [(1, lex_span_f124_l1_s k)]) (tj := []) (tb := []) rfl rfl rfl (all_nth 1 (by kernel_rfl) ⟨iter_case (by kernel_rfl) rfl (lex_span_f124_l1_ok0 k), trivial⟩) (nil_all (by kernel_rfl)) (fun p hp => by cases hp)
noncomputable def lex_span_f124_enc (r : Int) : AV UU := .pv (.int .i64 r)
noncomputable def lex_span_f124_dec (v : AV UU) (_ : List (List (AV UU))) : Option Int :=
asI .i64 v fun r0 =>
some r0
theorem lex_span_f124_dec_enc (v : AV UU) (b : List (List (AV UU))) (r : Int) (h : lex_span_f124_dec v b = some r) : v = lex_span_f124_enc r := by
  unfold lex_span_f124_dec at h
  replace h := asI_inv h; obtain ⟨r0, rfl, h⟩ := h
  cases h
  rfl
theorem lex_span_f124_eq (k : Nat) (s0 : ByteArray) (at1 : Int) : bodyK UX (lex_span_f124_cfg k) (lex_span_f124_G k) Tryd.f123 [.pv (.str s0), .pv (.int .i64 at1), .fn 124 [] []] [] lex_span_f124_dec = lex_span_f124 k s0 at1 := by kernel_rfl
theorem lex_span_f124_con (k : Nat) (s0 : ByteArray) (at1 : Int) (r : Int) (h : lex_span_f124 k s0 at1 = some r) : Con (X := UX) Tryd.prog 123 [.pv (.str s0), .pv (.int .i64 at1), .fn 124 [] []] [] (lex_span_f124_enc r) [] :=
  con_of_body xok tok Tryd.func123 lex_span_f124_body (lex_span_f124_gok k) rfl (lex_span_f124_cok k) (of_decide_eq_true (by kernel_rfl)) lex_span_f124_dec_enc ((lex_span_f124_eq k s0 at1).trans h)
noncomputable def lex_span_f124_an {ρ : Type} (k : Nat) : An UX ρ := fun args bx K =>
popA args fun v1 a2 =>
asS v1 fun s0 =>
popA a2 fun v3 a4 =>
asI .i64 v3 fun at1 =>
popA a4 fun v5 a6 =>
asF 124 v5 fun fa7 fb8 =>
popN fa7 <|
popN fb8 <|
popN a6 <|
popN bx <|
(lex_span_f124 k s0 at1).bind fun r => K (lex_span_f124_enc r) []
theorem lex_span_f124_ok {ρ : Type} (k : Nat) : AnsOK Tryd.prog 123 (lex_span_f124_an (ρ := ρ) k) := by
  intro args bx K r h
  unfold lex_span_f124_an at h
  replace h := popA_inv h; obtain ⟨v1, a2, rfl, h⟩ := h
  replace h := asS_inv h; obtain ⟨s0, rfl, h⟩ := h
  replace h := popA_inv h; obtain ⟨v3, a4, rfl, h⟩ := h
  replace h := asI_inv h; obtain ⟨at1, rfl, h⟩ := h
  replace h := popA_inv h; obtain ⟨v5, a6, rfl, h⟩ := h
  replace h := asF_inv h; obtain ⟨fa7, fb8, rfl, h⟩ := h
  replace h := popN_inv h; obtain ⟨rfl, h⟩ := h
  replace h := popN_inv h; obtain ⟨rfl, h⟩ := h
  replace h := popN_inv h; obtain ⟨rfl, h⟩ := h
  replace h := popN_inv h; obtain ⟨rfl, h⟩ := h
  replace h := bind_inv h
  obtain ⟨x, hx, h⟩ := h
  exact ⟨there_of Tryd.func123 (by kernel_rfl) lex_span_f124_body, _, _, h, lex_span_f124_con k s0 at1 x hx⟩

/-! cadastre/lex.skip$2 -/
noncomputable def lex_skip_2_code : Code := match Tryd.f126.body with | some c => c | none => .skip
theorem lex_skip_2_body : Tryd.f126.body = some lex_skip_2_code := by kernel_rfl
noncomputable def lex_skip_2_G {ρ : Type} (k : Nat) : Ans UX ρ := gnil
theorem lex_skip_2_gok {ρ : Type} (k : Nat) : GOK Tryd.prog (lex_skip_2_G (ρ := ρ) k) := gok_nil
noncomputable def lex_skip_2_cfg {ρ : Type} (k : Nat) : Cfg UX ρ where
  live i := (assoc [(0, [0]), (1, [0])] i).getD []
  boxes i := (assoc [(0, []), (1, [])] i).getD []
  tk i := (assoc [] i).getD []
  n := 5
  labelR l := (assoc [] l).getD 0
  loops := assoc []
  labels := assoc []
  joins := assoc []
  xl i e := match e with
    | .nxt => assoc [] i
    | .ret => assoc [] i
    | .exit j => (assoc [] i).bind fun l => assoc l j
    | .goto j => (assoc [] i).bind fun l => assoc l j
noncomputable def lex_skip_2_L : List Code := selI [] (loopsOf lex_skip_2_code)
noncomputable def lex_skip_2_J : List Code := selI [] (joinsOf lex_skip_2_code)
noncomputable def lex_skip_2_S : List Code := scopesOf lex_skip_2_code
theorem lex_skip_2_cok {ρ : Type} (k : Nat) : COK (lex_skip_2_cfg (ρ := ρ) k) (lex_skip_2_G k) lex_skip_2_code :=
  cok_of (tl := []) (tj := []) (tb := []) rfl rfl rfl (nil_all (by kernel_rfl)) (nil_all (by kernel_rfl)) (fun p hp => by cases hp)
noncomputable def lex_skip_2_enc (r : Bool) : AV UU := .pv (.bool r)
noncomputable def lex_skip_2_dec (v : AV UU) (_ : List (List (AV UU))) : Option Bool :=
asB v fun r0 =>
some r0
theorem lex_skip_2_dec_enc (v : AV UU) (b : List (List (AV UU))) (r : Bool) (h : lex_skip_2_dec v b = some r) : v = lex_skip_2_enc r := by
  unfold lex_skip_2_dec at h
  replace h := asB_inv h; obtain ⟨r0, rfl, h⟩ := h
  cases h
  rfl
theorem lex_skip_2_eq (k : Nat) (c0 : Int) : bodyK UX (lex_skip_2_cfg k) (lex_skip_2_G k) Tryd.f126 [.pv (.int .u8 c0)] [] lex_skip_2_dec = lex_skip_2 k c0 := by kernel_rfl
theorem lex_skip_2_con (k : Nat) (c0 : Int) (r : Bool) (h : lex_skip_2 k c0 = some r) : Con (X := UX) Tryd.prog 126 [.pv (.int .u8 c0)] [] (lex_skip_2_enc r) [] :=
  con_of_body xok tok Tryd.func126 lex_skip_2_body (lex_skip_2_gok k) rfl (lex_skip_2_cok k) (of_decide_eq_true (by kernel_rfl)) lex_skip_2_dec_enc ((lex_skip_2_eq k c0).trans h)
noncomputable def lex_skip_2_an {ρ : Type} (k : Nat) : An UX ρ := fun args bx K =>
popA args fun v1 a2 =>
asI .u8 v1 fun c0 =>
popN a2 <|
popN bx <|
(lex_skip_2 k c0).bind fun r => K (lex_skip_2_enc r) []
theorem lex_skip_2_ok {ρ : Type} (k : Nat) : AnsOK Tryd.prog 126 (lex_skip_2_an (ρ := ρ) k) := by
  intro args bx K r h
  unfold lex_skip_2_an at h
  replace h := popA_inv h; obtain ⟨v1, a2, rfl, h⟩ := h
  replace h := asI_inv h; obtain ⟨c0, rfl, h⟩ := h
  replace h := popN_inv h; obtain ⟨rfl, h⟩ := h
  replace h := popN_inv h; obtain ⟨rfl, h⟩ := h
  replace h := bind_inv h
  obtain ⟨x, hx, h⟩ := h
  exact ⟨there_of Tryd.func126 (by kernel_rfl) lex_skip_2_body, _, _, h, lex_skip_2_con k c0 x hx⟩

/-! cadastre/lex.span -/
noncomputable def lex_span_f126_code : Code := match Tryd.f123.body with | some c => c | none => .skip
theorem lex_span_f126_body : Tryd.f123.body = some lex_span_f126_code := by kernel_rfl
noncomputable def lex_span_f126_G {ρ : Type} (k : Nat) : Ans UX ρ := gk 126 (lex_skip_2_an k) (gnil)
theorem lex_span_f126_gok {ρ : Type} (k : Nat) : GOK Tryd.prog (lex_span_f126_G (ρ := ρ) k) := gok_cons (lex_skip_2_ok k) (gok_nil)
noncomputable def lex_span_f126_l1_s {ρ : Type} (k : Nat) : Run UX ρ := fun s K =>
popS 0 s.env fun v1 e2 =>
asS v1 fun s0 =>
popS 1 e2 fun v3 e4 =>
asI .i64 v3 fun at1 =>
popS 2 e4 fun v5 e6 =>
asF 126 v5 fun fa7 fb8 =>
popN fa7 <|
popN fb8 <|
popN e6 <|
popN s.hp <|
lex_span_f126_l1 k (fun at1 => K (.exit 0) ⟨[(1, .pv (.int .i64 at1))], []⟩) k s0 at1
noncomputable def lex_span_f126_cfg {ρ : Type} (k : Nat) : Cfg UX ρ where
  live i := (assoc [(0, [0, 1, 2]), (1, [0, 1, 2]), (2, [0, 1, 2]), (3, [1])] i).getD []
  boxes i := (assoc [(0, []), (1, []), (2, []), (3, [])] i).getD []
  tk i := (assoc [] i).getD []
  n := 21
  labelR l := (assoc [] l).getD 0
  loops := assoc [(1, lex_span_f126_l1_s k)]
  labels := assoc []
  joins := assoc []
  xl i e := match e with
    | .nxt => assoc [] i
    | .ret => assoc [] i
    | .exit j => (assoc [(1, [(0, ([1], []))])] i).bind fun l => assoc l j
    | .goto j => (assoc [] i).bind fun l => assoc l j
noncomputable def lex_span_f126_L : List Code := selI [1] (loopsOf lex_span_f126_code)
noncomputable def lex_span_f126_J : List Code := selI [] (joinsOf lex_span_f126_code)
noncomputable def lex_span_f126_S : List Code := scopesOf lex_span_f126_code
theorem lex_span_f126_l1_eq0 {ρ : Type} (k : Nat) (K : Ex → St UU → Option ρ) : ∀ (n : Nat) (v : ByteArray × Int), iterK UX (fun s => s.at (lex_span_f126_cfg (ρ := ρ) k).live (lex_span_f126_cfg (ρ := ρ) k).boxes (some 1)) (exec UX (lex_span_f126_cfg k) (lex_span_f126_G k) (lex_span_f126_L.getD 0 .skip)) n ⟨[(0, .pv (.str v.1)), (1, .pv (.int .i64 v.2)), (2, .fn 126 [] [])], []⟩ (nrmK UX (lex_span_f126_cfg k) 1 K) = lex_span_f126_l1 k (fun at1 => K (.exit 0) ⟨[(1, .pv (.int .i64 at1))], []⟩) n v.1 v.2 :=
  iter_rec (X := UX) (fun v => ⟨[(0, .pv (.str v.1)), (1, .pv (.int .i64 v.2)), (2, .fn 126 [] [])], []⟩) (fun rec v => lex_span_f126_l1_b k (fun at1 => K (.exit 0) ⟨[(1, .pv (.int .i64 at1))], []⟩) (fun s0 at1 => rec (s0, at1)) v.1 v.2) (fun n v => lex_span_f126_l1 k (fun at1 => K (.exit 0) ⟨[(1, .pv (.int .i64 at1))], []⟩) n v.1 v.2) (fun n v => by kernel_rfl) (fun _ => rfl) (fun _ _ => rfl)
theorem lex_span_f126_l1_ok0 {ρ : Type} (k : Nat) : IterOK UX (lex_span_f126_cfg (ρ := ρ) k) (lex_span_f126_G k) (lex_span_f126_L.getD 0 .skip) 1 (lex_span_f126_l1_s k) := by
  intro s K r h
  obtain ⟨env, hp⟩ := s
  unfold lex_span_f126_l1_s at h
  replace h := popS_inv h; obtain ⟨v1, e2, rfl, h⟩ := h
  replace h := asS_inv h; obtain ⟨s0, rfl, h⟩ := h
  replace h := popS_inv h; obtain ⟨v3, e4, rfl, h⟩ := h
  replace h := asI_inv h; obtain ⟨at1, rfl, h⟩ := h
  replace h := popS_inv h; obtain ⟨v5, e6, rfl, h⟩ := h
  replace h := asF_inv h; obtain ⟨fa7, fb8, rfl, h⟩ := h
  replace h := popN_inv h; obtain ⟨rfl, h⟩ := h
  replace h := popN_inv h; obtain ⟨rfl, h⟩ := h
  replace h := popN_inv h; obtain ⟨rfl, h⟩ := h
  replace h := popN_inv h; obtain ⟨rfl, h⟩ := h
  exact ⟨k, (lex_span_f126_l1_eq0 k K k (s0, at1)).trans h⟩
theorem lex_span_f126_cok {ρ : Type} (k : Nat) : COK (lex_span_f126_cfg (ρ := ρ) k) (lex_span_f126_G k) lex_span_f126_code :=
  cok_of (tl := [(1, lex_span_f126_l1_s k)]) (tj := []) (tb := []) rfl rfl rfl (all_nth 1 (by kernel_rfl) ⟨iter_case (by kernel_rfl) rfl (lex_span_f126_l1_ok0 k), trivial⟩) (nil_all (by kernel_rfl)) (fun p hp => by cases hp)
noncomputable def lex_span_f126_enc (r : Int) : AV UU := .pv (.int .i64 r)
noncomputable def lex_span_f126_dec (v : AV UU) (_ : List (List (AV UU))) : Option Int :=
asI .i64 v fun r0 =>
some r0
theorem lex_span_f126_dec_enc (v : AV UU) (b : List (List (AV UU))) (r : Int) (h : lex_span_f126_dec v b = some r) : v = lex_span_f126_enc r := by
  unfold lex_span_f126_dec at h
  replace h := asI_inv h; obtain ⟨r0, rfl, h⟩ := h
  cases h
  rfl
theorem lex_span_f126_eq (k : Nat) (s0 : ByteArray) (at1 : Int) : bodyK UX (lex_span_f126_cfg k) (lex_span_f126_G k) Tryd.f123 [.pv (.str s0), .pv (.int .i64 at1), .fn 126 [] []] [] lex_span_f126_dec = lex_span_f126 k s0 at1 := by kernel_rfl
theorem lex_span_f126_con (k : Nat) (s0 : ByteArray) (at1 : Int) (r : Int) (h : lex_span_f126 k s0 at1 = some r) : Con (X := UX) Tryd.prog 123 [.pv (.str s0), .pv (.int .i64 at1), .fn 126 [] []] [] (lex_span_f126_enc r) [] :=
  con_of_body xok tok Tryd.func123 lex_span_f126_body (lex_span_f126_gok k) rfl (lex_span_f126_cok k) (of_decide_eq_true (by kernel_rfl)) lex_span_f126_dec_enc ((lex_span_f126_eq k s0 at1).trans h)
noncomputable def lex_span_f126_an {ρ : Type} (k : Nat) : An UX ρ := fun args bx K =>
popA args fun v1 a2 =>
asS v1 fun s0 =>
popA a2 fun v3 a4 =>
asI .i64 v3 fun at1 =>
popA a4 fun v5 a6 =>
asF 126 v5 fun fa7 fb8 =>
popN fa7 <|
popN fb8 <|
popN a6 <|
popN bx <|
(lex_span_f126 k s0 at1).bind fun r => K (lex_span_f126_enc r) []
theorem lex_span_f126_ok {ρ : Type} (k : Nat) : AnsOK Tryd.prog 123 (lex_span_f126_an (ρ := ρ) k) := by
  intro args bx K r h
  unfold lex_span_f126_an at h
  replace h := popA_inv h; obtain ⟨v1, a2, rfl, h⟩ := h
  replace h := asS_inv h; obtain ⟨s0, rfl, h⟩ := h
  replace h := popA_inv h; obtain ⟨v3, a4, rfl, h⟩ := h
  replace h := asI_inv h; obtain ⟨at1, rfl, h⟩ := h
  replace h := popA_inv h; obtain ⟨v5, a6, rfl, h⟩ := h
  replace h := asF_inv h; obtain ⟨fa7, fb8, rfl, h⟩ := h
  replace h := popN_inv h; obtain ⟨rfl, h⟩ := h
  replace h := popN_inv h; obtain ⟨rfl, h⟩ := h
  replace h := popN_inv h; obtain ⟨rfl, h⟩ := h
  replace h := popN_inv h; obtain ⟨rfl, h⟩ := h
  replace h := bind_inv h
  obtain ⟨x, hx, h⟩ := h
  exact ⟨there_of Tryd.func123 (by kernel_rfl) lex_span_f126_body, _, _, h, lex_span_f126_con k s0 at1 x hx⟩

/-! cadastre/lex.skip -/
noncomputable def lex_skip_code : Code := match Tryd.f113.body with | some c => c | none => .skip
theorem lex_skip_body : Tryd.f113.body = some lex_skip_code := by kernel_rfl
noncomputable def lex_skip_G {ρ : Type} (k : Nat) : Ans UX ρ := gk 123 (gsel [0, 0, 126] (lex_span_f124_an k) (lex_span_f126_an k)) (gk 125 (strings_HasPrefix_an k) (gnil))
theorem lex_skip_gok {ρ : Type} (k : Nat) : GOK Tryd.prog (lex_skip_G (ρ := ρ) k) := gok_cons (gsel_ok (lex_span_f124_ok k) (lex_span_f126_ok k)) (gok_cons (strings_HasPrefix_ok k) (gok_nil))
noncomputable def lex_skip_j1_s {ρ : Type} (k : Nat) : Run UX ρ := fun s K =>
popS 0 s.env fun v1 e2 =>
asS v1 fun s0 =>
popS 1 e2 fun v3 e4 =>
asI .i64 v3 fun at1 =>
popN e4 <|
popN s.hp <|
lex_skip_j1 k (fun s0 at1 => K (.goto 0) ⟨[(0, .pv (.str s0)), (1, .pv (.int .i64 at1))], []⟩) (fun t4 => K .ret ⟨[(4, .pv (.int .i64 t4))], []⟩) s0 at1
noncomputable def lex_skip_g0_s {ρ : Type} (k : Nat) : Run UX ρ := fun s K =>
popS 0 s.env fun v1 e2 =>
asS v1 fun s0 =>
popS 1 e2 fun v3 e4 =>
asI .i64 v3 fun at1 =>
popN e4 <|
popN s.hp <|
lex_skip_g0 k (fun t4 => K .ret ⟨[(4, .pv (.int .i64 t4))], []⟩) k s0 at1
noncomputable def lex_skip_cfg {ρ : Type} (k : Nat) : Cfg UX ρ where
  live i := (assoc [(0, [0, 1]), (1, [0, 1]), (2, [0, 1]), (3, [0, 1]), (4, [1])] i).getD []
  boxes i := (assoc [(0, []), (1, []), (2, []), (3, []), (4, [])] i).getD []
  tk i := (assoc [] i).getD []
  n := 16
  labelR l := (assoc [(0, 1)] l).getD 0
  loops := assoc []
  labels := assoc [(0, lex_skip_g0_s k)]
  joins := assoc [(1, lex_skip_j1_s k)]
  xl i e := match e with
    | .nxt => assoc [] i
    | .ret => assoc [(1, ([4], [])), (1, ([4], []))] i
    | .exit j => (assoc [] i).bind fun l => assoc l j
    | .goto j => (assoc [(1, [(0, ([0, 1], []))])] i).bind fun l => assoc l j
noncomputable def lex_skip_L : List Code := selI [] (loopsOf lex_skip_code)
noncomputable def lex_skip_J : List Code := selI [1] (joinsOf lex_skip_code)
noncomputable def lex_skip_S : List Code := scopesOf lex_skip_code
theorem lex_skip_j1_eq0 {ρ : Type} (k : Nat) (K : Ex → St UU → Option ρ) (s0 : ByteArray) (at1 : Int) : exec UX (lex_skip_cfg k) (lex_skip_G k) (lex_skip_J.getD 0 .skip) ⟨[(0, .pv (.str s0)), (1, .pv (.int .i64 at1))], []⟩ (nrmK UX (lex_skip_cfg k) 1 K) = lex_skip_j1 k (fun s0 at1 => K (.goto 0) ⟨[(0, .pv (.str s0)), (1, .pv (.int .i64 at1))], []⟩) (fun t4 => K .ret ⟨[(4, .pv (.int .i64 t4))], []⟩) s0 at1 := by kernel_rfl
theorem lex_skip_j1_ok0 {ρ : Type} (k : Nat) : JoinOK UX (lex_skip_cfg (ρ := ρ) k) (lex_skip_G k) (lex_skip_J.getD 0 .skip) 1 (lex_skip_j1_s k) := by
  intro s K r h
  obtain ⟨env, hp⟩ := s
  unfold lex_skip_j1_s at h
  replace h := popS_inv h; obtain ⟨v1, e2, rfl, h⟩ := h
  replace h := asS_inv h; obtain ⟨s0, rfl, h⟩ := h
  replace h := popS_inv h; obtain ⟨v3, e4, rfl, h⟩ := h
  replace h := asI_inv h; obtain ⟨at1, rfl, h⟩ := h
  replace h := popN_inv h; obtain ⟨rfl, h⟩ := h
  replace h := popN_inv h; obtain ⟨rfl, h⟩ := h
  exact (lex_skip_j1_eq0 k K s0 at1).trans h
noncomputable def lex_skip_g0_f0 {ρ : Type} (k : Nat) : Run UX ρ := (suff UX (lex_skip_cfg k) (lex_skip_G k) (lex_skip_S.getD 0 .skip) 0).getD fun _ _ => none
theorem lex_skip_g0_eq0 {ρ : Type} (k : Nat) (K : Ex → St UU → Option ρ) : ∀ (n : Nat) (v : ByteArray × Int), scopeN UX (fun l s => s.at (lex_skip_cfg (ρ := ρ) k).live (lex_skip_cfg (ρ := ρ) k).boxes (some ((lex_skip_cfg (ρ := ρ) k).labelR l))) (suff UX (lex_skip_cfg k) (lex_skip_G k) (lex_skip_S.getD 0 .skip)) (fun l => ((lex_skip_cfg (ρ := ρ) k).labels l).isSome) n (lex_skip_g0_f0 k) ⟨[(0, .pv (.str v.1)), (1, .pv (.int .i64 v.2))], []⟩ (nrmK UX (lex_skip_cfg k) ((lex_skip_cfg (ρ := ρ) k).labelR 0) K) = lex_skip_g0 k (fun t4 => K .ret ⟨[(4, .pv (.int .i64 t4))], []⟩) n v.1 v.2 :=
  scope_rec (X := UX) (fun _ => lex_skip_g0_f0 k) (fun v => ⟨[(0, .pv (.str v.1)), (1, .pv (.int .i64 v.2))], []⟩) (fun rec v => lex_skip_g0_b k (fun t4 => K .ret ⟨[(4, .pv (.int .i64 t4))], []⟩) (fun s0 at1 => rec (s0, at1)) v.1 v.2) (fun n v => lex_skip_g0 k (fun t4 => K .ret ⟨[(4, .pv (.int .i64 t4))], []⟩) n v.1 v.2) (fun n v => by kernel_rfl) (fun _ => rfl) (fun _ _ => rfl)
theorem lex_skip_g0_ok0 {ρ : Type} (k : Nat) : LabOK UX (lex_skip_cfg (ρ := ρ) k) (lex_skip_G k) (lex_skip_S.getD 0 .skip) 0 (lex_skip_g0_s k) := by
  intro f hf s K r h
  have hf : lex_skip_g0_f0 k = f := by unfold lex_skip_g0_f0; rw [hf]; rfl
  subst hf
  obtain ⟨env, hp⟩ := s
  unfold lex_skip_g0_s at h
  replace h := popS_inv h; obtain ⟨v1, e2, rfl, h⟩ := h
  replace h := asS_inv h; obtain ⟨s0, rfl, h⟩ := h
  replace h := popS_inv h; obtain ⟨v3, e4, rfl, h⟩ := h
  replace h := asI_inv h; obtain ⟨at1, rfl, h⟩ := h
  replace h := popN_inv h; obtain ⟨rfl, h⟩ := h
  replace h := popN_inv h; obtain ⟨rfl, h⟩ := h
  exact ⟨k, (lex_skip_g0_eq0 k K k (s0, at1)).trans h⟩
theorem lex_skip_cok {ρ : Type} (k : Nat) : COK (lex_skip_cfg (ρ := ρ) k) (lex_skip_G k) lex_skip_code :=
  cok_of (tl := []) (tj := [(1, lex_skip_j1_s k)]) (tb := [(0, lex_skip_g0_s k)]) rfl rfl rfl (nil_all (by kernel_rfl)) (all_nth 1 (by kernel_rfl) ⟨join_case (by kernel_rfl) rfl (lex_skip_j1_ok0 k), trivial⟩) (fun p hp => by
    simp only [List.mem_cons, List.not_mem_nil, or_false] at hp
    subst hp
    · exact all_nth 1 (by kernel_rfl) ⟨lex_skip_g0_ok0 k, trivial⟩)
noncomputable def lex_skip_enc (r : Int) : AV UU := .pv (.int .i64 r)
noncomputable def lex_skip_dec (v : AV UU) (_ : List (List (AV UU))) : Option Int :=
asI .i64 v fun r0 =>
some r0
theorem lex_skip_dec_enc (v : AV UU) (b : List (List (AV UU))) (r : Int) (h : lex_skip_dec v b = some r) : v = lex_skip_enc r := by
  unfold lex_skip_dec at h
  replace h := asI_inv h; obtain ⟨r0, rfl, h⟩ := h
  cases h
  rfl
theorem lex_skip_eq (k : Nat) (s0 : ByteArray) (at1 : Int) : bodyK UX (lex_skip_cfg k) (lex_skip_G k) Tryd.f113 [.pv (.str s0), .pv (.int .i64 at1)] [] lex_skip_dec = lex_skip k s0 at1 := by kernel_rfl
theorem lex_skip_con (k : Nat) (s0 : ByteArray) (at1 : Int) (r : Int) (h : lex_skip k s0 at1 = some r) : Con (X := UX) Tryd.prog 113 [.pv (.str s0), .pv (.int .i64 at1)] [] (lex_skip_enc r) [] :=
  con_of_body xok tok Tryd.func113 lex_skip_body (lex_skip_gok k) rfl (lex_skip_cok k) (of_decide_eq_true (by kernel_rfl)) lex_skip_dec_enc ((lex_skip_eq k s0 at1).trans h)
noncomputable def lex_skip_an {ρ : Type} (k : Nat) : An UX ρ := fun args bx K =>
popA args fun v1 a2 =>
asS v1 fun s0 =>
popA a2 fun v3 a4 =>
asI .i64 v3 fun at1 =>
popN a4 <|
popN bx <|
(lex_skip k s0 at1).bind fun r => K (lex_skip_enc r) []
theorem lex_skip_ok {ρ : Type} (k : Nat) : AnsOK Tryd.prog 113 (lex_skip_an (ρ := ρ) k) := by
  intro args bx K r h
  unfold lex_skip_an at h
  replace h := popA_inv h; obtain ⟨v1, a2, rfl, h⟩ := h
  replace h := asS_inv h; obtain ⟨s0, rfl, h⟩ := h
  replace h := popA_inv h; obtain ⟨v3, a4, rfl, h⟩ := h
  replace h := asI_inv h; obtain ⟨at1, rfl, h⟩ := h
  replace h := popN_inv h; obtain ⟨rfl, h⟩ := h
  replace h := popN_inv h; obtain ⟨rfl, h⟩ := h
  replace h := bind_inv h
  obtain ⟨x, hx, h⟩ := h
  exact ⟨there_of Tryd.func113 (by kernel_rfl) lex_skip_body, _, _, h, lex_skip_con k s0 at1 x hx⟩

/-! cadastre/lex.letter -/
noncomputable def lex_letter_code : Code := match Tryd.f127.body with | some c => c | none => .skip
theorem lex_letter_body : Tryd.f127.body = some lex_letter_code := by kernel_rfl
noncomputable def lex_letter_G {ρ : Type} (k : Nat) : Ans UX ρ := gnil
theorem lex_letter_gok {ρ : Type} (k : Nat) : GOK Tryd.prog (lex_letter_G (ρ := ρ) k) := gok_nil
noncomputable def lex_letter_cfg {ρ : Type} (k : Nat) : Cfg UX ρ where
  live i := (assoc [(0, [0]), (1, [0])] i).getD []
  boxes i := (assoc [(0, []), (1, [])] i).getD []
  tk i := (assoc [] i).getD []
  n := 21
  labelR l := (assoc [] l).getD 0
  loops := assoc []
  labels := assoc []
  joins := assoc []
  xl i e := match e with
    | .nxt => assoc [] i
    | .ret => assoc [] i
    | .exit j => (assoc [] i).bind fun l => assoc l j
    | .goto j => (assoc [] i).bind fun l => assoc l j
noncomputable def lex_letter_L : List Code := selI [] (loopsOf lex_letter_code)
noncomputable def lex_letter_J : List Code := selI [] (joinsOf lex_letter_code)
noncomputable def lex_letter_S : List Code := scopesOf lex_letter_code
theorem lex_letter_cok {ρ : Type} (k : Nat) : COK (lex_letter_cfg (ρ := ρ) k) (lex_letter_G k) lex_letter_code :=
  cok_of (tl := []) (tj := []) (tb := []) rfl rfl rfl (nil_all (by kernel_rfl)) (nil_all (by kernel_rfl)) (fun p hp => by cases hp)
noncomputable def lex_letter_enc (r : Bool) : AV UU := .pv (.bool r)
noncomputable def lex_letter_dec (v : AV UU) (_ : List (List (AV UU))) : Option Bool :=
asB v fun r0 =>
some r0
theorem lex_letter_dec_enc (v : AV UU) (b : List (List (AV UU))) (r : Bool) (h : lex_letter_dec v b = some r) : v = lex_letter_enc r := by
  unfold lex_letter_dec at h
  replace h := asB_inv h; obtain ⟨r0, rfl, h⟩ := h
  cases h
  rfl
theorem lex_letter_eq (k : Nat) (c0 : Int) : bodyK UX (lex_letter_cfg k) (lex_letter_G k) Tryd.f127 [.pv (.int .u8 c0)] [] lex_letter_dec = lex_letter k c0 := by kernel_rfl
theorem lex_letter_con (k : Nat) (c0 : Int) (r : Bool) (h : lex_letter k c0 = some r) : Con (X := UX) Tryd.prog 127 [.pv (.int .u8 c0)] [] (lex_letter_enc r) [] :=
  con_of_body xok tok Tryd.func127 lex_letter_body (lex_letter_gok k) rfl (lex_letter_cok k) (of_decide_eq_true (by kernel_rfl)) lex_letter_dec_enc ((lex_letter_eq k c0).trans h)
noncomputable def lex_letter_an {ρ : Type} (k : Nat) : An UX ρ := fun args bx K =>
popA args fun v1 a2 =>
asI .u8 v1 fun c0 =>
popN a2 <|
popN bx <|
(lex_letter k c0).bind fun r => K (lex_letter_enc r) []
theorem lex_letter_ok {ρ : Type} (k : Nat) : AnsOK Tryd.prog 127 (lex_letter_an (ρ := ρ) k) := by
  intro args bx K r h
  unfold lex_letter_an at h
  replace h := popA_inv h; obtain ⟨v1, a2, rfl, h⟩ := h
  replace h := asI_inv h; obtain ⟨c0, rfl, h⟩ := h
  replace h := popN_inv h; obtain ⟨rfl, h⟩ := h
  replace h := popN_inv h; obtain ⟨rfl, h⟩ := h
  replace h := bind_inv h
  obtain ⟨x, hx, h⟩ := h
  exact ⟨there_of Tryd.func127 (by kernel_rfl) lex_letter_body, _, _, h, lex_letter_con k c0 x hx⟩

/-! cadastre/lex.digit -/
noncomputable def lex_digit_code : Code := match Tryd.f128.body with | some c => c | none => .skip
theorem lex_digit_body : Tryd.f128.body = some lex_digit_code := by kernel_rfl
noncomputable def lex_digit_G {ρ : Type} (k : Nat) : Ans UX ρ := gnil
theorem lex_digit_gok {ρ : Type} (k : Nat) : GOK Tryd.prog (lex_digit_G (ρ := ρ) k) := gok_nil
noncomputable def lex_digit_cfg {ρ : Type} (k : Nat) : Cfg UX ρ where
  live i := (assoc [(0, [0]), (1, [0])] i).getD []
  boxes i := (assoc [(0, []), (1, [])] i).getD []
  tk i := (assoc [] i).getD []
  n := 9
  labelR l := (assoc [] l).getD 0
  loops := assoc []
  labels := assoc []
  joins := assoc []
  xl i e := match e with
    | .nxt => assoc [] i
    | .ret => assoc [] i
    | .exit j => (assoc [] i).bind fun l => assoc l j
    | .goto j => (assoc [] i).bind fun l => assoc l j
noncomputable def lex_digit_L : List Code := selI [] (loopsOf lex_digit_code)
noncomputable def lex_digit_J : List Code := selI [] (joinsOf lex_digit_code)
noncomputable def lex_digit_S : List Code := scopesOf lex_digit_code
theorem lex_digit_cok {ρ : Type} (k : Nat) : COK (lex_digit_cfg (ρ := ρ) k) (lex_digit_G k) lex_digit_code :=
  cok_of (tl := []) (tj := []) (tb := []) rfl rfl rfl (nil_all (by kernel_rfl)) (nil_all (by kernel_rfl)) (fun p hp => by cases hp)
noncomputable def lex_digit_enc (r : Bool) : AV UU := .pv (.bool r)
noncomputable def lex_digit_dec (v : AV UU) (_ : List (List (AV UU))) : Option Bool :=
asB v fun r0 =>
some r0
theorem lex_digit_dec_enc (v : AV UU) (b : List (List (AV UU))) (r : Bool) (h : lex_digit_dec v b = some r) : v = lex_digit_enc r := by
  unfold lex_digit_dec at h
  replace h := asB_inv h; obtain ⟨r0, rfl, h⟩ := h
  cases h
  rfl
theorem lex_digit_eq (k : Nat) (c0 : Int) : bodyK UX (lex_digit_cfg k) (lex_digit_G k) Tryd.f128 [.pv (.int .u8 c0)] [] lex_digit_dec = lex_digit k c0 := by kernel_rfl
theorem lex_digit_con (k : Nat) (c0 : Int) (r : Bool) (h : lex_digit k c0 = some r) : Con (X := UX) Tryd.prog 128 [.pv (.int .u8 c0)] [] (lex_digit_enc r) [] :=
  con_of_body xok tok Tryd.func128 lex_digit_body (lex_digit_gok k) rfl (lex_digit_cok k) (of_decide_eq_true (by kernel_rfl)) lex_digit_dec_enc ((lex_digit_eq k c0).trans h)
noncomputable def lex_digit_an {ρ : Type} (k : Nat) : An UX ρ := fun args bx K =>
popA args fun v1 a2 =>
asI .u8 v1 fun c0 =>
popN a2 <|
popN bx <|
(lex_digit k c0).bind fun r => K (lex_digit_enc r) []
theorem lex_digit_ok {ρ : Type} (k : Nat) : AnsOK Tryd.prog 128 (lex_digit_an (ρ := ρ) k) := by
  intro args bx K r h
  unfold lex_digit_an at h
  replace h := popA_inv h; obtain ⟨v1, a2, rfl, h⟩ := h
  replace h := asI_inv h; obtain ⟨c0, rfl, h⟩ := h
  replace h := popN_inv h; obtain ⟨rfl, h⟩ := h
  replace h := popN_inv h; obtain ⟨rfl, h⟩ := h
  replace h := bind_inv h
  obtain ⟨x, hx, h⟩ := h
  exact ⟨there_of Tryd.func128 (by kernel_rfl) lex_digit_body, _, _, h, lex_digit_con k c0 x hx⟩

/-! internal/stringslite.IndexByte -/
noncomputable def stringslite_IndexByte_code : Code := match Tryd.f143.body with | some c => c | none => .skip
theorem stringslite_IndexByte_body : Tryd.f143.body = some stringslite_IndexByte_code := by kernel_rfl
noncomputable def stringslite_IndexByte_enc (r : Int) : AV UU := .pv (.int .i64 r)
open Go.RowKit in
set_option maxRecDepth 100000 in
set_option maxHeartbeats 1000000 in
theorem stringslite_IndexByte_con (k : Nat) (s0 : ByteArray) (c1 : Int) (r : Int) (h : stringslite_IndexByte k s0 c1 = some r) : Con (X := UX) Tryd.prog 143 [.pv (.str s0), .pv (.int .u8 c1)] [] (stringslite_IndexByte_enc r) [] := by
  unfold stringslite_IndexByte at h
  obtain rfl := Option.some.inj h
  exact con_strByte fun w => by
    go_enter Tryd.func143, Tryd.ntmps143
    go_wp2
    rw [run_callFunc_extern Tryd.func144 (by kernel_rfl) (by kernel_rfl) (by kernel_rfl) (e := Extern.BytealgIndexByte.indexByte) (by kernel_rfl), Lib.run_indexByteString]
    simp only [Result.andThen]
    rw [Oper.upon_value]
    go_wp2
    go_ret
    exact ⟨rfl, rfl⟩
noncomputable def stringslite_IndexByte_an {ρ : Type} (k : Nat) : An UX ρ := fun args bx K =>
popA args fun v1 a2 =>
asS v1 fun s0 =>
popA a2 fun v3 a4 =>
asI .u8 v3 fun c1 =>
popN a4 <|
popN bx <|
(stringslite_IndexByte k s0 c1).bind fun r => K (stringslite_IndexByte_enc r) []
theorem stringslite_IndexByte_ok {ρ : Type} (k : Nat) : AnsOK Tryd.prog 143 (stringslite_IndexByte_an (ρ := ρ) k) := by
  intro args bx K r h
  unfold stringslite_IndexByte_an at h
  replace h := popA_inv h; obtain ⟨v1, a2, rfl, h⟩ := h
  replace h := asS_inv h; obtain ⟨s0, rfl, h⟩ := h
  replace h := popA_inv h; obtain ⟨v3, a4, rfl, h⟩ := h
  replace h := asI_inv h; obtain ⟨c1, rfl, h⟩ := h
  replace h := popN_inv h; obtain ⟨rfl, h⟩ := h
  replace h := popN_inv h; obtain ⟨rfl, h⟩ := h
  replace h := bind_inv h
  obtain ⟨x, hx, h⟩ := h
  exact ⟨there_of Tryd.func143 (by kernel_rfl) stringslite_IndexByte_body, _, _, h, stringslite_IndexByte_con k s0 c1 x hx⟩
end Go.Proofs.YtnoeedkbadoogaaDoor.P
