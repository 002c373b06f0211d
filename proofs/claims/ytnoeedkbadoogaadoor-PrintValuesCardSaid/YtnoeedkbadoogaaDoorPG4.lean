/-
  What the program's functions answer: the printed functions' answers.
-/
import Derived.Test.YtnoeedkbadoogaaDoorPG3
namespace Go.Proofs.YtnoeedkbadoogaaDoor.P
open Go Go.AX
/-! cadastre/print.bare -/
noncomputable def print_bare_code : Code := match Tryd.f79.body with | some c => c | none => .skip
theorem print_bare_body : Tryd.f79.body = some print_bare_code := by kernel_rfl
noncomputable def print_bare_G {ρ : Type} (k : Nat) : Ans UX ρ := gnil
theorem print_bare_gok {ρ : Type} (k : Nat) : GOK Tryd.prog (print_bare_G (ρ := ρ) k) := gok_nil
noncomputable def print_bare_cfg {ρ : Type} (k : Nat) : Cfg UX ρ where
  live i := (assoc [(0, [0]), (1, [1, 2]), (2, [1, 2])] i).getD []
  boxes i := (assoc [(0, []), (1, [1, 2]), (2, [1, 2])] i).getD []
  tk i := (assoc [] i).getD []
  n := 5
  labelR l := (assoc [] l).getD 0
  loops := assoc []
  labels := assoc []
  joins := assoc []
  xl i e := match e with
    | .nxt => assoc [] i
    | .ret => assoc [] i
    | .exit j => (assoc [] i).bind fun l => assoc l j
    | .goto j => (assoc [] i).bind fun l => assoc l j
noncomputable def print_bare_L : List Code := selI [] (loopsOf print_bare_code)
noncomputable def print_bare_J : List Code := selI [] (joinsOf print_bare_code)
noncomputable def print_bare_S : List Code := scopesOf print_bare_code
theorem print_bare_cok {ρ : Type} (k : Nat) : COK (print_bare_cfg (ρ := ρ) k) (print_bare_G k) print_bare_code :=
  cok_of (tl := []) (tj := []) (tb := []) rfl rfl rfl (nil_all (by kernel_rfl)) (nil_all (by kernel_rfl)) (fun p hp => by cases hp)
noncomputable def print_bare_enc (r : S60) : AV UU := .pv (.typ (.s60 r))
noncomputable def print_bare_dec (v : AV UU) (_ : List (List (AV UU))) : Option S60 :=
as_s60 v fun r0 =>
some r0
theorem print_bare_dec_enc (v : AV UU) (b : List (List (AV UU))) (r : S60) (h : print_bare_dec v b = some r) : v = print_bare_enc r := by
  unfold print_bare_dec at h
  replace h := as_s60_inv h; obtain ⟨r0, rfl, h⟩ := h
  cases h
  rfl
theorem print_bare_eq (k : Nat) (s0 : S60) : bodyK UX (print_bare_cfg k) (print_bare_G k) Tryd.f79 [.pv (.typ (.s60 s0))] [] print_bare_dec = print_bare k s0 := by kernel_rfl
theorem print_bare_con (k : Nat) (s0 : S60) (r : S60) (h : print_bare k s0 = some r) : Con (X := UX) Tryd.prog 79 [.pv (.typ (.s60 s0))] [] (print_bare_enc r) [] :=
  con_of_body xok tok Tryd.func79 print_bare_body (print_bare_gok k) rfl (print_bare_cok k) (of_decide_eq_true (by kernel_rfl)) print_bare_dec_enc ((print_bare_eq k s0).trans h)
noncomputable def print_bare_an {ρ : Type} (k : Nat) : An UX ρ := fun args bx K =>
popA args fun v1 a2 =>
as_s60 v1 fun s0 =>
popN a2 <|
popN bx <|
(print_bare k s0).bind fun r => K (print_bare_enc r) []
theorem print_bare_ok {ρ : Type} (k : Nat) : AnsOK Tryd.prog 79 (print_bare_an (ρ := ρ) k) := by
  intro args bx K r h
  unfold print_bare_an at h
  replace h := popA_inv h; obtain ⟨v1, a2, rfl, h⟩ := h
  replace h := as_s60_inv h; obtain ⟨s0, rfl, h⟩ := h
  replace h := popN_inv h; obtain ⟨rfl, h⟩ := h
  replace h := popN_inv h; obtain ⟨rfl, h⟩ := h
  replace h := bind_inv h
  obtain ⟨x, hx, h⟩ := h
  exact ⟨there_of Tryd.func79 (by kernel_rfl) print_bare_body, _, _, h, print_bare_con k s0 x hx⟩

/-! cadastre/print.names -/
noncomputable def print_names_code : Code := match Tryd.f80.body with | some c => c | none => .skip
theorem print_names_body : Tryd.f80.body = some print_names_code := by kernel_rfl
noncomputable def print_names_G {ρ : Type} (k : Nat) : Ans UX ρ := gk 77 (print_Name_an k) (gnil)
theorem print_names_gok {ρ : Type} (k : Nat) : GOK Tryd.prog (print_names_G (ρ := ρ) k) := gok_cons (print_Name_ok k) (gok_nil)
noncomputable def print_names_l2_s {ρ : Type} (k : Nat) : Run UX ρ := fun s K =>
popS 5 s.env fun v1 e2 =>
as_ls v1 fun t5 =>
popS 6 e2 fun v3 e4 =>
asI .i64 v3 fun t6 =>
popS 7 e4 fun v5 e6 =>
asI .i64 v5 fun t7 =>
popN e6 <|
popN s.hp <|
print_names_l2 k (fun t2 => K .ret ⟨[(2, .pv (.bool t2))], []⟩) (K (.exit 0) ⟨[], []⟩) k t5 t6 t7
noncomputable def print_names_cfg {ρ : Type} (k : Nat) : Cfg UX ρ where
  live i := (assoc [(0, [0]), (1, [0]), (2, [5, 6, 7]), (3, [5, 6, 7]), (4, [4, 5, 6, 7]), (5, []), (6, [5, 6, 7]), (7, [])] i).getD []
  boxes i := (assoc [(0, []), (1, []), (2, []), (3, []), (4, []), (5, []), (6, []), (7, [])] i).getD []
  tk i := (assoc [] i).getD []
  n := 15
  labelR l := (assoc [] l).getD 0
  loops := assoc [(2, print_names_l2_s k)]
  labels := assoc []
  joins := assoc []
  xl i e := match e with
    | .nxt => assoc [] i
    | .ret => assoc [(2, ([2], []))] i
    | .exit j => (assoc [(2, [(0, ([], []))])] i).bind fun l => assoc l j
    | .goto j => (assoc [] i).bind fun l => assoc l j
noncomputable def print_names_L : List Code := selI [2] (loopsOf print_names_code)
noncomputable def print_names_J : List Code := selI [] (joinsOf print_names_code)
noncomputable def print_names_S : List Code := scopesOf print_names_code
theorem print_names_l2_eq0 {ρ : Type} (k : Nat) (K : Ex → St UU → Option ρ) : ∀ (n : Nat) (v : (List ByteArray) × Int × Int), iterK UX (fun s => s.at (print_names_cfg (ρ := ρ) k).live (print_names_cfg (ρ := ρ) k).boxes (some 2)) (exec UX (print_names_cfg k) (print_names_G k) (print_names_L.getD 0 .skip)) n ⟨[(5, .pv (.typ (.ls v.1))), (6, .pv (.int .i64 v.2.1)), (7, .pv (.int .i64 v.2.2))], []⟩ (nrmK UX (print_names_cfg k) 2 K) = print_names_l2 k (fun t2 => K .ret ⟨[(2, .pv (.bool t2))], []⟩) (K (.exit 0) ⟨[], []⟩) n v.1 v.2.1 v.2.2 :=
  iter_rec (X := UX) (fun v => ⟨[(5, .pv (.typ (.ls v.1))), (6, .pv (.int .i64 v.2.1)), (7, .pv (.int .i64 v.2.2))], []⟩) (fun rec v => print_names_l2_b k (fun t2 => K .ret ⟨[(2, .pv (.bool t2))], []⟩) (K (.exit 0) ⟨[], []⟩) (fun t5 t6 t7 => rec (t5, t6, t7)) v.1 v.2.1 v.2.2) (fun n v => print_names_l2 k (fun t2 => K .ret ⟨[(2, .pv (.bool t2))], []⟩) (K (.exit 0) ⟨[], []⟩) n v.1 v.2.1 v.2.2) (fun n v => by kernel_rfl) (fun _ => rfl) (fun _ _ => rfl)
theorem print_names_l2_ok0 {ρ : Type} (k : Nat) : IterOK UX (print_names_cfg (ρ := ρ) k) (print_names_G k) (print_names_L.getD 0 .skip) 2 (print_names_l2_s k) := by
  intro s K r h
  obtain ⟨env, hp⟩ := s
  unfold print_names_l2_s at h
  replace h := popS_inv h; obtain ⟨v1, e2, rfl, h⟩ := h
  replace h := as_ls_inv h; obtain ⟨t5, rfl, h⟩ := h
  replace h := popS_inv h; obtain ⟨v3, e4, rfl, h⟩ := h
  replace h := asI_inv h; obtain ⟨t6, rfl, h⟩ := h
  replace h := popS_inv h; obtain ⟨v5, e6, rfl, h⟩ := h
  replace h := asI_inv h; obtain ⟨t7, rfl, h⟩ := h
  replace h := popN_inv h; obtain ⟨rfl, h⟩ := h
  replace h := popN_inv h; obtain ⟨rfl, h⟩ := h
  exact ⟨k, (print_names_l2_eq0 k K k (t5, t6, t7)).trans h⟩
theorem print_names_cok {ρ : Type} (k : Nat) : COK (print_names_cfg (ρ := ρ) k) (print_names_G k) print_names_code :=
  cok_of (tl := [(2, print_names_l2_s k)]) (tj := []) (tb := []) rfl rfl rfl (all_nth 1 (by kernel_rfl) ⟨iter_case (by kernel_rfl) rfl (print_names_l2_ok0 k), trivial⟩) (nil_all (by kernel_rfl)) (fun p hp => by cases hp)
noncomputable def print_names_enc (r : Bool) : AV UU := .pv (.bool r)
noncomputable def print_names_dec (v : AV UU) (_ : List (List (AV UU))) : Option Bool :=
asB v fun r0 =>
some r0
theorem print_names_dec_enc (v : AV UU) (b : List (List (AV UU))) (r : Bool) (h : print_names_dec v b = some r) : v = print_names_enc r := by
  unfold print_names_dec at h
  replace h := asB_inv h; obtain ⟨r0, rfl, h⟩ := h
  cases h
  rfl
theorem print_names_eq (k : Nat) (l0 : List ByteArray) : bodyK UX (print_names_cfg k) (print_names_G k) Tryd.f80 [.pv (.typ (.ls l0))] [] print_names_dec = print_names k l0 := by kernel_rfl
theorem print_names_con (k : Nat) (l0 : List ByteArray) (r : Bool) (h : print_names k l0 = some r) : Con (X := UX) Tryd.prog 80 [.pv (.typ (.ls l0))] [] (print_names_enc r) [] :=
  con_of_body xok tok Tryd.func80 print_names_body (print_names_gok k) rfl (print_names_cok k) (of_decide_eq_true (by kernel_rfl)) print_names_dec_enc ((print_names_eq k l0).trans h)
noncomputable def print_names_an {ρ : Type} (k : Nat) : An UX ρ := fun args bx K =>
popA args fun v1 a2 =>
as_ls v1 fun l0 =>
popN a2 <|
popN bx <|
(print_names k l0).bind fun r => K (print_names_enc r) []
theorem print_names_ok {ρ : Type} (k : Nat) : AnsOK Tryd.prog 80 (print_names_an (ρ := ρ) k) := by
  intro args bx K r h
  unfold print_names_an at h
  replace h := popA_inv h; obtain ⟨v1, a2, rfl, h⟩ := h
  replace h := as_ls_inv h; obtain ⟨l0, rfl, h⟩ := h
  replace h := popN_inv h; obtain ⟨rfl, h⟩ := h
  replace h := popN_inv h; obtain ⟨rfl, h⟩ := h
  replace h := bind_inv h
  obtain ⟨x, hx, h⟩ := h
  exact ⟨there_of Tryd.func80 (by kernel_rfl) print_names_body, _, _, h, print_names_con k l0 x hx⟩

/-! cadastre/value.Type -/
noncomputable def value_Type_code : Code := match Tryd.f109.body with | some c => c | none => .skip
theorem value_Type_body : Tryd.f109.body = some value_Type_code := by kernel_rfl
noncomputable def value_Type_G {ρ : Type} (k : Nat) : Ans UX ρ := gnil
theorem value_Type_gok {ρ : Type} (k : Nat) : GOK Tryd.prog (value_Type_G (ρ := ρ) k) := gok_nil
noncomputable def value_Type_cfg {ρ : Type} (k : Nat) : Cfg UX ρ where
  live i := (assoc [(0, [0]), (1, [0])] i).getD []
  boxes i := (assoc [(0, []), (1, [])] i).getD []
  tk i := (assoc [] i).getD []
  n := 9
  labelR l := (assoc [] l).getD 0
  loops := assoc []
  labels := assoc []
  joins := assoc []
  xl i e := match e with
    | .nxt => assoc [] i
    | .ret => assoc [] i
    | .exit j => (assoc [] i).bind fun l => assoc l j
    | .goto j => (assoc [] i).bind fun l => assoc l j
noncomputable def value_Type_L : List Code := selI [] (loopsOf value_Type_code)
noncomputable def value_Type_J : List Code := selI [] (joinsOf value_Type_code)
noncomputable def value_Type_S : List Code := scopesOf value_Type_code
theorem value_Type_cok {ρ : Type} (k : Nat) : COK (value_Type_cfg (ρ := ρ) k) (value_Type_G k) value_Type_code :=
  cok_of (tl := []) (tj := []) (tb := []) rfl rfl rfl (nil_all (by kernel_rfl)) (nil_all (by kernel_rfl)) (fun p hp => by cases hp)
noncomputable def value_Type_enc (r : Bool) : AV UU := .pv (.bool r)
noncomputable def value_Type_dec (v : AV UU) (_ : List (List (AV UU))) : Option Bool :=
asB v fun r0 =>
some r0
theorem value_Type_dec_enc (v : AV UU) (b : List (List (AV UU))) (r : Bool) (h : value_Type_dec v b = some r) : v = value_Type_enc r := by
  unfold value_Type_dec at h
  replace h := asB_inv h; obtain ⟨r0, rfl, h⟩ := h
  cases h
  rfl
theorem value_Type_eq (k : Nat) (t0 : Int) : bodyK UX (value_Type_cfg k) (value_Type_G k) Tryd.f109 [.pv (.int .i64 t0)] [] value_Type_dec = value_Type k t0 := by kernel_rfl
theorem value_Type_con (k : Nat) (t0 : Int) (r : Bool) (h : value_Type k t0 = some r) : Con (X := UX) Tryd.prog 109 [.pv (.int .i64 t0)] [] (value_Type_enc r) [] :=
  con_of_body xok tok Tryd.func109 value_Type_body (value_Type_gok k) rfl (value_Type_cok k) (of_decide_eq_true (by kernel_rfl)) value_Type_dec_enc ((value_Type_eq k t0).trans h)
noncomputable def value_Type_an {ρ : Type} (k : Nat) : An UX ρ := fun args bx K =>
popA args fun v1 a2 =>
asI .i64 v1 fun t0 =>
popN a2 <|
popN bx <|
(value_Type k t0).bind fun r => K (value_Type_enc r) []
theorem value_Type_ok {ρ : Type} (k : Nat) : AnsOK Tryd.prog 109 (value_Type_an (ρ := ρ) k) := by
  intro args bx K r h
  unfold value_Type_an at h
  replace h := popA_inv h; obtain ⟨v1, a2, rfl, h⟩ := h
  replace h := asI_inv h; obtain ⟨t0, rfl, h⟩ := h
  replace h := popN_inv h; obtain ⟨rfl, h⟩ := h
  replace h := popN_inv h; obtain ⟨rfl, h⟩ := h
  replace h := bind_inv h
  obtain ⟨x, hx, h⟩ := h
  exact ⟨there_of Tryd.func109 (by kernel_rfl) value_Type_body, _, _, h, value_Type_con k t0 x hx⟩

/-! cadastre/print.many[cadastre/api.Column] -/
noncomputable def api_Column__110_code : Code := match Tryd.f110.body with | some c => c | none => .skip
theorem api_Column__110_body : Tryd.f110.body = some api_Column__110_code := by kernel_rfl
noncomputable def api_Column__110_G {ρ : Type} (k : Nat) : Ans UX ρ := gnil
theorem api_Column__110_gok {ρ : Type} (k : Nat) : GOK Tryd.prog (api_Column__110_G (ρ := ρ) k) := gok_nil
noncomputable def api_Column__110_cfg {ρ : Type} (k : Nat) : Cfg UX ρ where
  live i := (assoc [(0, [0, 1, 2]), (1, [0, 1, 2])] i).getD []
  boxes i := (assoc [(0, []), (1, [])] i).getD []
  tk i := (assoc [] i).getD []
  n := 17
  labelR l := (assoc [] l).getD 0
  loops := assoc []
  labels := assoc []
  joins := assoc []
  xl i e := match e with
    | .nxt => assoc [] i
    | .ret => assoc [] i
    | .exit j => (assoc [] i).bind fun l => assoc l j
    | .goto j => (assoc [] i).bind fun l => assoc l j
noncomputable def api_Column__110_L : List Code := selI [] (loopsOf api_Column__110_code)
noncomputable def api_Column__110_J : List Code := selI [] (joinsOf api_Column__110_code)
noncomputable def api_Column__110_S : List Code := scopesOf api_Column__110_code
theorem api_Column__110_cok {ρ : Type} (k : Nat) : COK (api_Column__110_cfg (ρ := ρ) k) (api_Column__110_G k) api_Column__110_code :=
  cok_of (tl := []) (tj := []) (tb := []) rfl rfl rfl (nil_all (by kernel_rfl)) (nil_all (by kernel_rfl)) (fun p hp => by cases hp)
noncomputable def api_Column__110_enc (r : Bool) : AV UU := .pv (.bool r)
noncomputable def api_Column__110_dec (v : AV UU) (_ : List (List (AV UU))) : Option Bool :=
asB v fun r0 =>
some r0
theorem api_Column__110_dec_enc (v : AV UU) (b : List (List (AV UU))) (r : Bool) (h : api_Column__110_dec v b = some r) : v = api_Column__110_enc r := by
  unfold api_Column__110_dec at h
  replace h := asB_inv h; obtain ⟨r0, rfl, h⟩ := h
  cases h
  rfl
theorem api_Column__110_eq (k : Nat) (l0 : List S113) (least1 : Int) (most2 : Int) : bodyK UX (api_Column__110_cfg k) (api_Column__110_G k) Tryd.f110 [.pv (.typ (.l113 l0)), .pv (.int .i64 least1), .pv (.int .i64 most2)] [] api_Column__110_dec = api_Column__110 k l0 least1 most2 := by kernel_rfl
theorem api_Column__110_con (k : Nat) (l0 : List S113) (least1 : Int) (most2 : Int) (r : Bool) (h : api_Column__110 k l0 least1 most2 = some r) : Con (X := UX) Tryd.prog 110 [.pv (.typ (.l113 l0)), .pv (.int .i64 least1), .pv (.int .i64 most2)] [] (api_Column__110_enc r) [] :=
  con_of_body xok tok Tryd.func110 api_Column__110_body (api_Column__110_gok k) rfl (api_Column__110_cok k) (of_decide_eq_true (by kernel_rfl)) api_Column__110_dec_enc ((api_Column__110_eq k l0 least1 most2).trans h)
noncomputable def api_Column__110_an {ρ : Type} (k : Nat) : An UX ρ := fun args bx K =>
popA args fun v1 a2 =>
as_l113 v1 fun l0 =>
popA a2 fun v3 a4 =>
asI .i64 v3 fun least1 =>
popA a4 fun v5 a6 =>
asI .i64 v5 fun most2 =>
popN a6 <|
popN bx <|
(api_Column__110 k l0 least1 most2).bind fun r => K (api_Column__110_enc r) []
theorem api_Column__110_ok {ρ : Type} (k : Nat) : AnsOK Tryd.prog 110 (api_Column__110_an (ρ := ρ) k) := by
  intro args bx K r h
  unfold api_Column__110_an at h
  replace h := popA_inv h; obtain ⟨v1, a2, rfl, h⟩ := h
  replace h := as_l113_inv h; obtain ⟨l0, rfl, h⟩ := h
  replace h := popA_inv h; obtain ⟨v3, a4, rfl, h⟩ := h
  replace h := asI_inv h; obtain ⟨least1, rfl, h⟩ := h
  replace h := popA_inv h; obtain ⟨v5, a6, rfl, h⟩ := h
  replace h := asI_inv h; obtain ⟨most2, rfl, h⟩ := h
  replace h := popN_inv h; obtain ⟨rfl, h⟩ := h
  replace h := popN_inv h; obtain ⟨rfl, h⟩ := h
  replace h := bind_inv h
  obtain ⟨x, hx, h⟩ := h
  exact ⟨there_of Tryd.func110 (by kernel_rfl) api_Column__110_body, _, _, h, api_Column__110_con k l0 least1 most2 x hx⟩

/-! cadastre/print.columns -/
noncomputable def print_columns_code : Code := match Tryd.f81.body with | some c => c | none => .skip
theorem print_columns_body : Tryd.f81.body = some print_columns_code := by kernel_rfl
noncomputable def print_columns_G {ρ : Type} (k : Nat) : Ans UX ρ := gk 77 (print_Name_an k) (gk 109 (value_Type_an k) (gk 110 (api_Column__110_an k) (gnil)))
theorem print_columns_gok {ρ : Type} (k : Nat) : GOK Tryd.prog (print_columns_G (ρ := ρ) k) := gok_cons (print_Name_ok k) (gok_cons (value_Type_ok k) (gok_cons (api_Column__110_ok k) (gok_nil)))
noncomputable def print_columns_l2_s {ρ : Type} (k : Nat) : Run UX ρ := fun s K =>
popS 0 s.env fun v1 e2 =>
as_l113 v1 fun l0 =>
popS 1 e2 fun v3 e4 =>
asB v3 fun virtual1 =>
popS 7 e4 fun v5 e6 =>
as_l113 v5 fun t7 =>
popS 8 e6 fun v7 e8 =>
asI .i64 v7 fun t8 =>
popS 9 e8 fun v9 e10 =>
asI .i64 v9 fun t9 =>
popN e10 <|
popN s.hp <|
print_columns_l2 k (fun t4 => K .ret ⟨[(4, .pv (.bool t4))], []⟩) (fun l0 virtual1 => K (.exit 0) ⟨[(0, .pv (.typ (.l113 l0))), (1, .pv (.bool virtual1))], []⟩) k l0 virtual1 t7 t8 t9
noncomputable def print_columns_cfg {ρ : Type} (k : Nat) : Cfg UX ρ where
  live i := (assoc [(0, [0, 1]), (1, [0, 1]), (2, [0, 1, 7, 8, 9]), (3, [0, 1, 7, 8, 9]), (4, [0, 1, 6, 7, 8, 9]), (5, []), (6, [0, 1, 7, 8, 9]), (7, [0, 1]), (8, [0]), (9, [0])] i).getD []
  boxes i := (assoc [(0, []), (1, []), (2, []), (3, []), (4, [6]), (5, []), (6, []), (7, []), (8, []), (9, [])] i).getD []
  tk i := (assoc [] i).getD []
  n := 43
  labelR l := (assoc [] l).getD 0
  loops := assoc [(2, print_columns_l2_s k)]
  labels := assoc []
  joins := assoc []
  xl i e := match e with
    | .nxt => assoc [] i
    | .ret => assoc [(2, ([4], []))] i
    | .exit j => (assoc [(2, [(0, ([0, 1], []))])] i).bind fun l => assoc l j
    | .goto j => (assoc [] i).bind fun l => assoc l j
noncomputable def print_columns_L : List Code := selI [2] (loopsOf print_columns_code)
noncomputable def print_columns_J : List Code := selI [] (joinsOf print_columns_code)
noncomputable def print_columns_S : List Code := scopesOf print_columns_code
theorem print_columns_l2_eq0 {ρ : Type} (k : Nat) (K : Ex → St UU → Option ρ) : ∀ (n : Nat) (v : (List S113) × Bool × (List S113) × Int × Int), iterK UX (fun s => s.at (print_columns_cfg (ρ := ρ) k).live (print_columns_cfg (ρ := ρ) k).boxes (some 2)) (exec UX (print_columns_cfg k) (print_columns_G k) (print_columns_L.getD 0 .skip)) n ⟨[(0, .pv (.typ (.l113 v.1))), (1, .pv (.bool v.2.1)), (7, .pv (.typ (.l113 v.2.2.1))), (8, .pv (.int .i64 v.2.2.2.1)), (9, .pv (.int .i64 v.2.2.2.2))], []⟩ (nrmK UX (print_columns_cfg k) 2 K) = print_columns_l2 k (fun t4 => K .ret ⟨[(4, .pv (.bool t4))], []⟩) (fun l0 virtual1 => K (.exit 0) ⟨[(0, .pv (.typ (.l113 l0))), (1, .pv (.bool virtual1))], []⟩) n v.1 v.2.1 v.2.2.1 v.2.2.2.1 v.2.2.2.2 :=
  iter_rec (X := UX) (fun v => ⟨[(0, .pv (.typ (.l113 v.1))), (1, .pv (.bool v.2.1)), (7, .pv (.typ (.l113 v.2.2.1))), (8, .pv (.int .i64 v.2.2.2.1)), (9, .pv (.int .i64 v.2.2.2.2))], []⟩) (fun rec v => print_columns_l2_b k (fun t4 => K .ret ⟨[(4, .pv (.bool t4))], []⟩) (fun l0 virtual1 => K (.exit 0) ⟨[(0, .pv (.typ (.l113 l0))), (1, .pv (.bool virtual1))], []⟩) (fun l0 virtual1 t7 t8 t9 => rec (l0, virtual1, t7, t8, t9)) v.1 v.2.1 v.2.2.1 v.2.2.2.1 v.2.2.2.2) (fun n v => print_columns_l2 k (fun t4 => K .ret ⟨[(4, .pv (.bool t4))], []⟩) (fun l0 virtual1 => K (.exit 0) ⟨[(0, .pv (.typ (.l113 l0))), (1, .pv (.bool virtual1))], []⟩) n v.1 v.2.1 v.2.2.1 v.2.2.2.1 v.2.2.2.2) (fun n v => by kernel_rfl) (fun _ => rfl) (fun _ _ => rfl)
theorem print_columns_l2_ok0 {ρ : Type} (k : Nat) : IterOK UX (print_columns_cfg (ρ := ρ) k) (print_columns_G k) (print_columns_L.getD 0 .skip) 2 (print_columns_l2_s k) := by
  intro s K r h
  obtain ⟨env, hp⟩ := s
  unfold print_columns_l2_s at h
  replace h := popS_inv h; obtain ⟨v1, e2, rfl, h⟩ := h
  replace h := as_l113_inv h; obtain ⟨l0, rfl, h⟩ := h
  replace h := popS_inv h; obtain ⟨v3, e4, rfl, h⟩ := h
  replace h := asB_inv h; obtain ⟨virtual1, rfl, h⟩ := h
  replace h := popS_inv h; obtain ⟨v5, e6, rfl, h⟩ := h
  replace h := as_l113_inv h; obtain ⟨t7, rfl, h⟩ := h
  replace h := popS_inv h; obtain ⟨v7, e8, rfl, h⟩ := h
  replace h := asI_inv h; obtain ⟨t8, rfl, h⟩ := h
  replace h := popS_inv h; obtain ⟨v9, e10, rfl, h⟩ := h
  replace h := asI_inv h; obtain ⟨t9, rfl, h⟩ := h
  replace h := popN_inv h; obtain ⟨rfl, h⟩ := h
  replace h := popN_inv h; obtain ⟨rfl, h⟩ := h
  exact ⟨k, (print_columns_l2_eq0 k K k (l0, virtual1, t7, t8, t9)).trans h⟩
theorem print_columns_cok {ρ : Type} (k : Nat) : COK (print_columns_cfg (ρ := ρ) k) (print_columns_G k) print_columns_code :=
  cok_of (tl := [(2, print_columns_l2_s k)]) (tj := []) (tb := []) rfl rfl rfl (all_nth 1 (by kernel_rfl) ⟨iter_case (by kernel_rfl) rfl (print_columns_l2_ok0 k), trivial⟩) (nil_all (by kernel_rfl)) (fun p hp => by cases hp)
noncomputable def print_columns_enc (r : Bool) : AV UU := .pv (.bool r)
noncomputable def print_columns_dec (v : AV UU) (_ : List (List (AV UU))) : Option Bool :=
asB v fun r0 =>
some r0
theorem print_columns_dec_enc (v : AV UU) (b : List (List (AV UU))) (r : Bool) (h : print_columns_dec v b = some r) : v = print_columns_enc r := by
  unfold print_columns_dec at h
  replace h := asB_inv h; obtain ⟨r0, rfl, h⟩ := h
  cases h
  rfl
theorem print_columns_eq (k : Nat) (l0 : List S113) (virtual1 : Bool) : bodyK UX (print_columns_cfg k) (print_columns_G k) Tryd.f81 [.pv (.typ (.l113 l0)), .pv (.bool virtual1)] [] print_columns_dec = print_columns k l0 virtual1 := by kernel_rfl
theorem print_columns_con (k : Nat) (l0 : List S113) (virtual1 : Bool) (r : Bool) (h : print_columns k l0 virtual1 = some r) : Con (X := UX) Tryd.prog 81 [.pv (.typ (.l113 l0)), .pv (.bool virtual1)] [] (print_columns_enc r) [] :=
  con_of_body xok tok Tryd.func81 print_columns_body (print_columns_gok k) rfl (print_columns_cok k) (of_decide_eq_true (by kernel_rfl)) print_columns_dec_enc ((print_columns_eq k l0 virtual1).trans h)
noncomputable def print_columns_an {ρ : Type} (k : Nat) : An UX ρ := fun args bx K =>
popA args fun v1 a2 =>
as_l113 v1 fun l0 =>
popA a2 fun v3 a4 =>
asB v3 fun virtual1 =>
popN a4 <|
popN bx <|
(print_columns k l0 virtual1).bind fun r => K (print_columns_enc r) []
theorem print_columns_ok {ρ : Type} (k : Nat) : AnsOK Tryd.prog 81 (print_columns_an (ρ := ρ) k) := by
  intro args bx K r h
  unfold print_columns_an at h
  replace h := popA_inv h; obtain ⟨v1, a2, rfl, h⟩ := h
  replace h := as_l113_inv h; obtain ⟨l0, rfl, h⟩ := h
  replace h := popA_inv h; obtain ⟨v3, a4, rfl, h⟩ := h
  replace h := asB_inv h; obtain ⟨virtual1, rfl, h⟩ := h
  replace h := popN_inv h; obtain ⟨rfl, h⟩ := h
  replace h := popN_inv h; obtain ⟨rfl, h⟩ := h
  replace h := bind_inv h
  obtain ⟨x, hx, h⟩ := h
  exact ⟨there_of Tryd.func81 (by kernel_rfl) print_columns_body, _, _, h, print_columns_con k l0 virtual1 x hx⟩

/-! cadastre/print.many[string] -/
noncomputable def print_many_string__code : Code := match Tryd.f82.body with | some c => c | none => .skip
theorem print_many_string__body : Tryd.f82.body = some print_many_string__code := by kernel_rfl
noncomputable def print_many_string__G {ρ : Type} (k : Nat) : Ans UX ρ := gnil
theorem print_many_string__gok {ρ : Type} (k : Nat) : GOK Tryd.prog (print_many_string__G (ρ := ρ) k) := gok_nil
noncomputable def print_many_string__cfg {ρ : Type} (k : Nat) : Cfg UX ρ where
  live i := (assoc [(0, [0, 1, 2]), (1, [0, 1, 2])] i).getD []
  boxes i := (assoc [(0, []), (1, [])] i).getD []
  tk i := (assoc [] i).getD []
  n := 17
  labelR l := (assoc [] l).getD 0
  loops := assoc []
  labels := assoc []
  joins := assoc []
  xl i e := match e with
    | .nxt => assoc [] i
    | .ret => assoc [] i
    | .exit j => (assoc [] i).bind fun l => assoc l j
    | .goto j => (assoc [] i).bind fun l => assoc l j
noncomputable def print_many_string__L : List Code := selI [] (loopsOf print_many_string__code)
noncomputable def print_many_string__J : List Code := selI [] (joinsOf print_many_string__code)
noncomputable def print_many_string__S : List Code := scopesOf print_many_string__code
theorem print_many_string__cok {ρ : Type} (k : Nat) : COK (print_many_string__cfg (ρ := ρ) k) (print_many_string__G k) print_many_string__code :=
  cok_of (tl := []) (tj := []) (tb := []) rfl rfl rfl (nil_all (by kernel_rfl)) (nil_all (by kernel_rfl)) (fun p hp => by cases hp)
noncomputable def print_many_string__enc (r : Bool) : AV UU := .pv (.bool r)
noncomputable def print_many_string__dec (v : AV UU) (_ : List (List (AV UU))) : Option Bool :=
asB v fun r0 =>
some r0
theorem print_many_string__dec_enc (v : AV UU) (b : List (List (AV UU))) (r : Bool) (h : print_many_string__dec v b = some r) : v = print_many_string__enc r := by
  unfold print_many_string__dec at h
  replace h := asB_inv h; obtain ⟨r0, rfl, h⟩ := h
  cases h
  rfl
theorem print_many_string__eq (k : Nat) (l0 : List ByteArray) (least1 : Int) (most2 : Int) : bodyK UX (print_many_string__cfg k) (print_many_string__G k) Tryd.f82 [.pv (.typ (.ls l0)), .pv (.int .i64 least1), .pv (.int .i64 most2)] [] print_many_string__dec = print_many_string_ k l0 least1 most2 := by kernel_rfl
theorem print_many_string__con (k : Nat) (l0 : List ByteArray) (least1 : Int) (most2 : Int) (r : Bool) (h : print_many_string_ k l0 least1 most2 = some r) : Con (X := UX) Tryd.prog 82 [.pv (.typ (.ls l0)), .pv (.int .i64 least1), .pv (.int .i64 most2)] [] (print_many_string__enc r) [] :=
  con_of_body xok tok Tryd.func82 print_many_string__body (print_many_string__gok k) rfl (print_many_string__cok k) (of_decide_eq_true (by kernel_rfl)) print_many_string__dec_enc ((print_many_string__eq k l0 least1 most2).trans h)
noncomputable def print_many_string__an {ρ : Type} (k : Nat) : An UX ρ := fun args bx K =>
popA args fun v1 a2 =>
as_ls v1 fun l0 =>
popA a2 fun v3 a4 =>
asI .i64 v3 fun least1 =>
popA a4 fun v5 a6 =>
asI .i64 v5 fun most2 =>
popN a6 <|
popN bx <|
(print_many_string_ k l0 least1 most2).bind fun r => K (print_many_string__enc r) []
theorem print_many_string__ok {ρ : Type} (k : Nat) : AnsOK Tryd.prog 82 (print_many_string__an (ρ := ρ) k) := by
  intro args bx K r h
  unfold print_many_string__an at h
  replace h := popA_inv h; obtain ⟨v1, a2, rfl, h⟩ := h
  replace h := as_ls_inv h; obtain ⟨l0, rfl, h⟩ := h
  replace h := popA_inv h; obtain ⟨v3, a4, rfl, h⟩ := h
  replace h := asI_inv h; obtain ⟨least1, rfl, h⟩ := h
  replace h := popA_inv h; obtain ⟨v5, a6, rfl, h⟩ := h
  replace h := asI_inv h; obtain ⟨most2, rfl, h⟩ := h
  replace h := popN_inv h; obtain ⟨rfl, h⟩ := h
  replace h := popN_inv h; obtain ⟨rfl, h⟩ := h
  replace h := bind_inv h
  obtain ⟨x, hx, h⟩ := h
  exact ⟨there_of Tryd.func82 (by kernel_rfl) print_many_string__body, _, _, h, print_many_string__con k l0 least1 most2 x hx⟩

/-! cadastre/print.many[cadastre/api.Expr] -/
noncomputable def api_Expr__83_code : Code := match Tryd.f83.body with | some c => c | none => .skip
theorem api_Expr__83_body : Tryd.f83.body = some api_Expr__83_code := by kernel_rfl
noncomputable def api_Expr__83_G {ρ : Type} (k : Nat) : Ans UX ρ := gnil
theorem api_Expr__83_gok {ρ : Type} (k : Nat) : GOK Tryd.prog (api_Expr__83_G (ρ := ρ) k) := gok_nil
noncomputable def api_Expr__83_cfg {ρ : Type} (k : Nat) : Cfg UX ρ where
  live i := (assoc [(0, [0, 1, 2]), (1, [0, 1, 2])] i).getD []
  boxes i := (assoc [(0, []), (1, [])] i).getD []
  tk i := (assoc [] i).getD []
  n := 17
  labelR l := (assoc [] l).getD 0
  loops := assoc []
  labels := assoc []
  joins := assoc []
  xl i e := match e with
    | .nxt => assoc [] i
    | .ret => assoc [] i
    | .exit j => (assoc [] i).bind fun l => assoc l j
    | .goto j => (assoc [] i).bind fun l => assoc l j
noncomputable def api_Expr__83_L : List Code := selI [] (loopsOf api_Expr__83_code)
noncomputable def api_Expr__83_J : List Code := selI [] (joinsOf api_Expr__83_code)
noncomputable def api_Expr__83_S : List Code := scopesOf api_Expr__83_code
theorem api_Expr__83_cok {ρ : Type} (k : Nat) : COK (api_Expr__83_cfg (ρ := ρ) k) (api_Expr__83_G k) api_Expr__83_code :=
  cok_of (tl := []) (tj := []) (tb := []) rfl rfl rfl (nil_all (by kernel_rfl)) (nil_all (by kernel_rfl)) (fun p hp => by cases hp)
noncomputable def api_Expr__83_enc (r : Bool) : AV UU := .pv (.bool r)
noncomputable def api_Expr__83_dec (v : AV UU) (_ : List (List (AV UU))) : Option Bool :=
asB v fun r0 =>
some r0
theorem api_Expr__83_dec_enc (v : AV UU) (b : List (List (AV UU))) (r : Bool) (h : api_Expr__83_dec v b = some r) : v = api_Expr__83_enc r := by
  unfold api_Expr__83_dec at h
  replace h := asB_inv h; obtain ⟨r0, rfl, h⟩ := h
  cases h
  rfl
theorem api_Expr__83_eq (k : Nat) (l0 : List T25) (least1 : Int) (most2 : Int) : bodyK UX (api_Expr__83_cfg k) (api_Expr__83_G k) Tryd.f83 [.pv (.typ (.l25 l0)), .pv (.int .i64 least1), .pv (.int .i64 most2)] [] api_Expr__83_dec = api_Expr__83 k l0 least1 most2 := by kernel_rfl
theorem api_Expr__83_con (k : Nat) (l0 : List T25) (least1 : Int) (most2 : Int) (r : Bool) (h : api_Expr__83 k l0 least1 most2 = some r) : Con (X := UX) Tryd.prog 83 [.pv (.typ (.l25 l0)), .pv (.int .i64 least1), .pv (.int .i64 most2)] [] (api_Expr__83_enc r) [] :=
  con_of_body xok tok Tryd.func83 api_Expr__83_body (api_Expr__83_gok k) rfl (api_Expr__83_cok k) (of_decide_eq_true (by kernel_rfl)) api_Expr__83_dec_enc ((api_Expr__83_eq k l0 least1 most2).trans h)
noncomputable def api_Expr__83_an {ρ : Type} (k : Nat) : An UX ρ := fun args bx K =>
popA args fun v1 a2 =>
as_l25 v1 fun l0 =>
popA a2 fun v3 a4 =>
asI .i64 v3 fun least1 =>
popA a4 fun v5 a6 =>
asI .i64 v5 fun most2 =>
popN a6 <|
popN bx <|
(api_Expr__83 k l0 least1 most2).bind fun r => K (api_Expr__83_enc r) []
theorem api_Expr__83_ok {ρ : Type} (k : Nat) : AnsOK Tryd.prog 83 (api_Expr__83_an (ρ := ρ) k) := by
  intro args bx K r h
  unfold api_Expr__83_an at h
  replace h := popA_inv h; obtain ⟨v1, a2, rfl, h⟩ := h
  replace h := as_l25_inv h; obtain ⟨l0, rfl, h⟩ := h
  replace h := popA_inv h; obtain ⟨v3, a4, rfl, h⟩ := h
  replace h := asI_inv h; obtain ⟨least1, rfl, h⟩ := h
  replace h := popA_inv h; obtain ⟨v5, a6, rfl, h⟩ := h
  replace h := asI_inv h; obtain ⟨most2, rfl, h⟩ := h
  replace h := popN_inv h; obtain ⟨rfl, h⟩ := h
  replace h := popN_inv h; obtain ⟨rfl, h⟩ := h
  replace h := bind_inv h
  obtain ⟨x, hx, h⟩ := h
  exact ⟨there_of Tryd.func83 (by kernel_rfl) api_Expr__83_body, _, _, h, api_Expr__83_con k l0 least1 most2 x hx⟩

/-! cadastre/print.many[cadastre/api.Set] -/
noncomputable def api_Set__84_code : Code := match Tryd.f84.body with | some c => c | none => .skip
theorem api_Set__84_body : Tryd.f84.body = some api_Set__84_code := by kernel_rfl
noncomputable def api_Set__84_G {ρ : Type} (k : Nat) : Ans UX ρ := gnil
theorem api_Set__84_gok {ρ : Type} (k : Nat) : GOK Tryd.prog (api_Set__84_G (ρ := ρ) k) := gok_nil
noncomputable def api_Set__84_cfg {ρ : Type} (k : Nat) : Cfg UX ρ where
  live i := (assoc [(0, [0, 1, 2]), (1, [0, 1, 2])] i).getD []
  boxes i := (assoc [(0, []), (1, [])] i).getD []
  tk i := (assoc [] i).getD []
  n := 17
  labelR l := (assoc [] l).getD 0
  loops := assoc []
  labels := assoc []
  joins := assoc []
  xl i e := match e with
    | .nxt => assoc [] i
    | .ret => assoc [] i
    | .exit j => (assoc [] i).bind fun l => assoc l j
    | .goto j => (assoc [] i).bind fun l => assoc l j
noncomputable def api_Set__84_L : List Code := selI [] (loopsOf api_Set__84_code)
noncomputable def api_Set__84_J : List Code := selI [] (joinsOf api_Set__84_code)
noncomputable def api_Set__84_S : List Code := scopesOf api_Set__84_code
theorem api_Set__84_cok {ρ : Type} (k : Nat) : COK (api_Set__84_cfg (ρ := ρ) k) (api_Set__84_G k) api_Set__84_code :=
  cok_of (tl := []) (tj := []) (tb := []) rfl rfl rfl (nil_all (by kernel_rfl)) (nil_all (by kernel_rfl)) (fun p hp => by cases hp)
noncomputable def api_Set__84_enc (r : Bool) : AV UU := .pv (.bool r)
noncomputable def api_Set__84_dec (v : AV UU) (_ : List (List (AV UU))) : Option Bool :=
asB v fun r0 =>
some r0
theorem api_Set__84_dec_enc (v : AV UU) (b : List (List (AV UU))) (r : Bool) (h : api_Set__84_dec v b = some r) : v = api_Set__84_enc r := by
  unfold api_Set__84_dec at h
  replace h := asB_inv h; obtain ⟨r0, rfl, h⟩ := h
  cases h
  rfl
theorem api_Set__84_eq (k : Nat) (l0 : List S90) (least1 : Int) (most2 : Int) : bodyK UX (api_Set__84_cfg k) (api_Set__84_G k) Tryd.f84 [.pv (.typ (.l90 l0)), .pv (.int .i64 least1), .pv (.int .i64 most2)] [] api_Set__84_dec = api_Set__84 k l0 least1 most2 := by kernel_rfl
theorem api_Set__84_con (k : Nat) (l0 : List S90) (least1 : Int) (most2 : Int) (r : Bool) (h : api_Set__84 k l0 least1 most2 = some r) : Con (X := UX) Tryd.prog 84 [.pv (.typ (.l90 l0)), .pv (.int .i64 least1), .pv (.int .i64 most2)] [] (api_Set__84_enc r) [] :=
  con_of_body xok tok Tryd.func84 api_Set__84_body (api_Set__84_gok k) rfl (api_Set__84_cok k) (of_decide_eq_true (by kernel_rfl)) api_Set__84_dec_enc ((api_Set__84_eq k l0 least1 most2).trans h)
noncomputable def api_Set__84_an {ρ : Type} (k : Nat) : An UX ρ := fun args bx K =>
popA args fun v1 a2 =>
as_l90 v1 fun l0 =>
popA a2 fun v3 a4 =>
asI .i64 v3 fun least1 =>
popA a4 fun v5 a6 =>
asI .i64 v5 fun most2 =>
popN a6 <|
popN bx <|
(api_Set__84 k l0 least1 most2).bind fun r => K (api_Set__84_enc r) []
theorem api_Set__84_ok {ρ : Type} (k : Nat) : AnsOK Tryd.prog 84 (api_Set__84_an (ρ := ρ) k) := by
  intro args bx K r h
  unfold api_Set__84_an at h
  replace h := popA_inv h; obtain ⟨v1, a2, rfl, h⟩ := h
  replace h := as_l90_inv h; obtain ⟨l0, rfl, h⟩ := h
  replace h := popA_inv h; obtain ⟨v3, a4, rfl, h⟩ := h
  replace h := asI_inv h; obtain ⟨least1, rfl, h⟩ := h
  replace h := popA_inv h; obtain ⟨v5, a6, rfl, h⟩ := h
  replace h := asI_inv h; obtain ⟨most2, rfl, h⟩ := h
  replace h := popN_inv h; obtain ⟨rfl, h⟩ := h
  replace h := popN_inv h; obtain ⟨rfl, h⟩ := h
  replace h := bind_inv h
  obtain ⟨x, hx, h⟩ := h
  exact ⟨there_of Tryd.func84 (by kernel_rfl) api_Set__84_body, _, _, h, api_Set__84_con k l0 least1 most2 x hx⟩
end Go.Proofs.YtnoeedkbadoogaaDoor.P
