/-
  What the program's functions answer: the printed functions' answers.
-/
import Derived.Test.YtnoeedkbadoogaaDoorPG6
namespace Go.Proofs.YtnoeedkbadoogaaDoor.P
open Go Go.AX
/-! cadastre/print.list[cadastre/api.Expr] -/
noncomputable def api_Expr__55_p0_f19_code : Code := match Tryd.f55.body with | some c => c | none => .skip
theorem api_Expr__55_p0_f19_body : Tryd.f55.body = some api_Expr__55_p0_f19_code := by kernel_rfl
noncomputable def api_Expr__55_p0_f19_G {ρ : Type} (k : Nat) : Ans UX ρ := gk 29 (print_writer_put_p0_an k) (gk 19 (print_writer_expr_p0_an k) (gnil))
theorem api_Expr__55_p0_f19_gok {ρ : Type} (k : Nat) : GOK Tryd.prog (api_Expr__55_p0_f19_G (ρ := ρ) k) := gok_cons (print_writer_put_p0_ok k) (gok_cons (print_writer_expr_p0_ok k) (gok_nil))
noncomputable def api_Expr__55_p0_f19_l1_s {ρ : Type} (k : Nat) : Run UX ρ := fun s K =>
popS 0 s.env fun v1 e2 =>
asP 1000 0 v1 <|
popS 2 e2 fun v3 e4 =>
asF 19 v3 fun fa5 fb6 =>
popA fa5 fun c7 fb8 =>
asSP 1000 0 c7 <|
popN fb8 <|
popN fb6 <|
popS 8 e4 fun v10 e11 =>
as_l25 v10 fun t8 =>
popS 9 e11 fun v12 e13 =>
asI .i64 v12 fun t9 =>
popS 10 e13 fun v14 e15 =>
asI .i64 v14 fun t10 =>
popN e15 <|
popB 1000 s.hp fun c16 e17 =>
popA c16 fun v18 c19 =>
asO_li_u8 v18 fun t1000_0 =>
popA c19 fun v20 c21 =>
asB v20 fun z22 =>
popN c21 <|
popN e17 <|
api_Expr__55_p0_f19_l1 k (fun t1000_0 t1000_1 => K (.exit 0) ⟨[], [(1000, [.own (.li_u8 t1000_0), .pv (.bool t1000_1)])]⟩) k t8 t9 t10 t1000_0 z22
noncomputable def api_Expr__55_p0_f19_cfg {ρ : Type} (k : Nat) : Cfg UX ρ where
  live i := (assoc [(0, [0, 1, 2]), (1, [0, 2, 8, 9, 10]), (2, [0, 2, 8, 9, 10]), (3, [0, 2, 6, 7, 8, 9, 10]), (4, [0, 2, 7, 8, 9, 10]), (5, [0, 2, 7, 8, 9, 10]), (6, [0, 2, 8, 9, 10])] i).getD []
  boxes i := (assoc [(0, []), (1, []), (2, []), (3, [7]), (4, [7]), (5, [7]), (6, [])] i).getD []
  tk i := (assoc [] i).getD []
  n := 24
  labelR l := (assoc [] l).getD 0
  loops := assoc [(1, api_Expr__55_p0_f19_l1_s k)]
  labels := assoc []
  joins := assoc []
  xl i e := match e with
    | .nxt => assoc [] i
    | .ret => assoc [] i
    | .exit j => (assoc [(1, [(0, ([], []))])] i).bind fun l => assoc l j
    | .goto j => (assoc [] i).bind fun l => assoc l j
noncomputable def api_Expr__55_p0_f19_L : List Code := selI [1] (loopsOf api_Expr__55_p0_f19_code)
noncomputable def api_Expr__55_p0_f19_J : List Code := selI [] (joinsOf api_Expr__55_p0_f19_code)
noncomputable def api_Expr__55_p0_f19_S : List Code := scopesOf api_Expr__55_p0_f19_code
theorem api_Expr__55_p0_f19_l1_eq0 {ρ : Type} (k : Nat) (K : Ex → St UU → Option ρ) : ∀ (n : Nat) (v : (List T25) × Int × Int × (List Int) × Bool), iterK UX (fun s => s.at (api_Expr__55_p0_f19_cfg (ρ := ρ) k).live (api_Expr__55_p0_f19_cfg (ρ := ρ) k).boxes (some 1)) (exec UX (api_Expr__55_p0_f19_cfg k) (api_Expr__55_p0_f19_G k) (api_Expr__55_p0_f19_L.getD 0 .skip)) n ⟨[(0, .ptr 1000 0), (2, .fn 19 [.ptr 1000 0] []), (8, .pv (.typ (.l25 v.1))), (9, .pv (.int .i64 v.2.1)), (10, .pv (.int .i64 v.2.2.1))], [(1000, [.own (.li_u8 v.2.2.2.1), .pv (.bool v.2.2.2.2)])]⟩ (nrmK UX (api_Expr__55_p0_f19_cfg k) 1 K) = api_Expr__55_p0_f19_l1 k (fun t1000_0 t1000_1 => K (.exit 0) ⟨[], [(1000, [.own (.li_u8 t1000_0), .pv (.bool t1000_1)])]⟩) n v.1 v.2.1 v.2.2.1 v.2.2.2.1 v.2.2.2.2 :=
  iter_rec (X := UX) (fun v => ⟨[(0, .ptr 1000 0), (2, .fn 19 [.ptr 1000 0] []), (8, .pv (.typ (.l25 v.1))), (9, .pv (.int .i64 v.2.1)), (10, .pv (.int .i64 v.2.2.1))], [(1000, [.own (.li_u8 v.2.2.2.1), .pv (.bool v.2.2.2.2)])]⟩) (fun rec v => api_Expr__55_p0_f19_l1_b k (fun t1000_0 t1000_1 => K (.exit 0) ⟨[], [(1000, [.own (.li_u8 t1000_0), .pv (.bool t1000_1)])]⟩) (fun t8 t9 t10 t1000_0 t1000_1 => rec (t8, t9, t10, t1000_0, t1000_1)) v.1 v.2.1 v.2.2.1 v.2.2.2.1 v.2.2.2.2) (fun n v => api_Expr__55_p0_f19_l1 k (fun t1000_0 t1000_1 => K (.exit 0) ⟨[], [(1000, [.own (.li_u8 t1000_0), .pv (.bool t1000_1)])]⟩) n v.1 v.2.1 v.2.2.1 v.2.2.2.1 v.2.2.2.2) (fun n v => by kernel_rfl) (fun _ => rfl) (fun _ _ => rfl)
theorem api_Expr__55_p0_f19_l1_ok0 {ρ : Type} (k : Nat) : IterOK UX (api_Expr__55_p0_f19_cfg (ρ := ρ) k) (api_Expr__55_p0_f19_G k) (api_Expr__55_p0_f19_L.getD 0 .skip) 1 (api_Expr__55_p0_f19_l1_s k) := by
  intro s K r h
  obtain ⟨env, hp⟩ := s
  unfold api_Expr__55_p0_f19_l1_s at h
  replace h := popS_inv h; obtain ⟨v1, e2, rfl, h⟩ := h
  replace h := asP_inv h; obtain ⟨rfl, h⟩ := h
  replace h := popS_inv h; obtain ⟨v3, e4, rfl, h⟩ := h
  replace h := asF_inv h; obtain ⟨fa5, fb6, rfl, h⟩ := h
  replace h := popA_inv h; obtain ⟨c7, fb8, rfl, h⟩ := h
  replace h := asSP_inv h; obtain ⟨rfl, h⟩ := h
  replace h := popN_inv h; obtain ⟨rfl, h⟩ := h
  replace h := popN_inv h; obtain ⟨rfl, h⟩ := h
  replace h := popS_inv h; obtain ⟨v10, e11, rfl, h⟩ := h
  replace h := as_l25_inv h; obtain ⟨t8, rfl, h⟩ := h
  replace h := popS_inv h; obtain ⟨v12, e13, rfl, h⟩ := h
  replace h := asI_inv h; obtain ⟨t9, rfl, h⟩ := h
  replace h := popS_inv h; obtain ⟨v14, e15, rfl, h⟩ := h
  replace h := asI_inv h; obtain ⟨t10, rfl, h⟩ := h
  replace h := popN_inv h; obtain ⟨rfl, h⟩ := h
  replace h := popB_inv h; obtain ⟨c16, e17, rfl, h⟩ := h
  replace h := popA_inv h; obtain ⟨v18, c19, rfl, h⟩ := h
  replace h := asO_li_u8_inv h; obtain ⟨t1000_0, rfl, h⟩ := h
  replace h := popA_inv h; obtain ⟨v20, c21, rfl, h⟩ := h
  replace h := asB_inv h; obtain ⟨z22, rfl, h⟩ := h
  replace h := popN_inv h; obtain ⟨rfl, h⟩ := h
  replace h := popN_inv h; obtain ⟨rfl, h⟩ := h
  exact ⟨k, (api_Expr__55_p0_f19_l1_eq0 k K k (t8, t9, t10, t1000_0, z22)).trans h⟩
theorem api_Expr__55_p0_f19_cok {ρ : Type} (k : Nat) : COK (api_Expr__55_p0_f19_cfg (ρ := ρ) k) (api_Expr__55_p0_f19_G k) api_Expr__55_p0_f19_code :=
  cok_of (tl := [(1, api_Expr__55_p0_f19_l1_s k)]) (tj := []) (tb := []) rfl rfl rfl (all_nth 1 (by kernel_rfl) ⟨iter_case (by kernel_rfl) rfl (api_Expr__55_p0_f19_l1_ok0 k), trivial⟩) (nil_all (by kernel_rfl)) (fun p hp => by cases hp)
noncomputable def api_Expr__55_p0_f19_enc (r : (Unit) × S51) : AV UU := .pv (.tup [])
noncomputable def api_Expr__55_p0_f19_bx (r : (Unit) × S51) : List (List (AV UU)) := [[.own (.li_u8 r.2.f0), .pv (.bool r.2.f1)]]
noncomputable def api_Expr__55_p0_f19_dec (v : AV UU) (b : List (List (AV UU))) : Option ((Unit) × S51) :=
asT v fun q1 =>
popN q1 <|
popA b fun c2 b3 =>
popA c2 fun v4 c5 =>
asO_li_u8 v4 fun z6 =>
popA c5 fun v7 c8 =>
asB v7 fun z9 =>
popN c8 <|
popN b3 <|
some ((), (⟨z6, z9⟩ : S51))
theorem api_Expr__55_p0_f19_dec_enc (v : AV UU) (b : List (List (AV UU))) (r : (Unit) × S51) (_ : b.length = 1) (h : api_Expr__55_p0_f19_dec v b = some r) : v = api_Expr__55_p0_f19_enc r ∧ b = api_Expr__55_p0_f19_bx r := by
  unfold api_Expr__55_p0_f19_dec at h
  replace h := asT_inv h; obtain ⟨q1, rfl, h⟩ := h
  replace h := popN_inv h; obtain ⟨rfl, h⟩ := h
  replace h := popA_inv h; obtain ⟨c2, b3, rfl, h⟩ := h
  replace h := popA_inv h; obtain ⟨v4, c5, rfl, h⟩ := h
  replace h := asO_li_u8_inv h; obtain ⟨z6, rfl, h⟩ := h
  replace h := popA_inv h; obtain ⟨v7, c8, rfl, h⟩ := h
  replace h := asB_inv h; obtain ⟨z9, rfl, h⟩ := h
  replace h := popN_inv h; obtain ⟨rfl, h⟩ := h
  replace h := popN_inv h; obtain ⟨rfl, h⟩ := h
  cases h
  exact ⟨rfl, rfl⟩
theorem api_Expr__55_p0_f19_eq (k : Nat) (l1 : List T25) (bx0 : S51) : bodyK UX (api_Expr__55_p0_f19_cfg k) (api_Expr__55_p0_f19_G k) Tryd.f55 [.ptr 1000 0, .pv (.typ (.l25 l1)), .fn 19 [.ptr 1000 0] []] [[.own (.li_u8 bx0.f0), .pv (.bool bx0.f1)]] api_Expr__55_p0_f19_dec = api_Expr__55_p0_f19 k l1 bx0 := by kernel_rfl
theorem api_Expr__55_p0_f19_con (k : Nat) (l1 : List T25) (bx0 : S51) (r : (Unit) × S51) (h : api_Expr__55_p0_f19 k l1 bx0 = some r) : Con (X := UX) Tryd.prog 55 [.ptr 1000 0, .pv (.typ (.l25 l1)), .fn 19 [.ptr 1000 0] []] [[.own (.li_u8 bx0.f0), .pv (.bool bx0.f1)]] (api_Expr__55_p0_f19_enc r) (api_Expr__55_p0_f19_bx r) :=
  con_of_bodyB (args := [.ptr 1000 0, .pv (.typ (.l25 l1)), .fn 19 [.ptr 1000 0] []]) (bx := [[.own (.li_u8 bx0.f0), .pv (.bool bx0.f1)]]) xok tok Tryd.func55 api_Expr__55_p0_f19_body (api_Expr__55_p0_f19_gok k) rfl (api_Expr__55_p0_f19_cok k) (of_decide_eq_true (by kernel_rfl)) (.inr (of_decide_eq_true (by kernel_rfl))) (fun v b r hl => api_Expr__55_p0_f19_dec_enc v b r hl) ((api_Expr__55_p0_f19_eq k l1 bx0).trans h)
noncomputable def api_Expr__55_p0_f19_an {ρ : Type} (k : Nat) : An UX ρ := fun args bx K =>
popA args fun v1 a2 =>
asP 1000 0 v1 <|
popA a2 fun v3 a4 =>
as_l25 v3 fun l1 =>
popA a4 fun v5 a6 =>
asF 19 v5 fun fa7 fb8 =>
popA fa7 fun c9 fb10 =>
asSP 1000 0 c9 <|
popN fb10 <|
popN fb8 <|
popN a6 <|
popA bx fun c12 b13 =>
popA c12 fun v14 c15 =>
asO_li_u8 v14 fun z16 =>
popA c15 fun v17 c18 =>
asB v17 fun z19 =>
popN c18 <|
popN b13 <|
(api_Expr__55_p0_f19 k l1 (⟨z16, z19⟩ : S51)).bind fun r => K (api_Expr__55_p0_f19_enc r) (api_Expr__55_p0_f19_bx r)
theorem api_Expr__55_p0_f19_ok {ρ : Type} (k : Nat) : AnsOK Tryd.prog 55 (api_Expr__55_p0_f19_an (ρ := ρ) k) := by
  intro args bx K r h
  unfold api_Expr__55_p0_f19_an at h
  replace h := popA_inv h; obtain ⟨v1, a2, rfl, h⟩ := h
  replace h := asP_inv h; obtain ⟨rfl, h⟩ := h
  replace h := popA_inv h; obtain ⟨v3, a4, rfl, h⟩ := h
  replace h := as_l25_inv h; obtain ⟨l1, rfl, h⟩ := h
  replace h := popA_inv h; obtain ⟨v5, a6, rfl, h⟩ := h
  replace h := asF_inv h; obtain ⟨fa7, fb8, rfl, h⟩ := h
  replace h := popA_inv h; obtain ⟨c9, fb10, rfl, h⟩ := h
  replace h := asSP_inv h; obtain ⟨rfl, h⟩ := h
  replace h := popN_inv h; obtain ⟨rfl, h⟩ := h
  replace h := popN_inv h; obtain ⟨rfl, h⟩ := h
  replace h := popN_inv h; obtain ⟨rfl, h⟩ := h
  replace h := popA_inv h; obtain ⟨c12, b13, rfl, h⟩ := h
  replace h := popA_inv h; obtain ⟨v14, c15, rfl, h⟩ := h
  replace h := asO_li_u8_inv h; obtain ⟨z16, rfl, h⟩ := h
  replace h := popA_inv h; obtain ⟨v17, c18, rfl, h⟩ := h
  replace h := asB_inv h; obtain ⟨z19, rfl, h⟩ := h
  replace h := popN_inv h; obtain ⟨rfl, h⟩ := h
  replace h := popN_inv h; obtain ⟨rfl, h⟩ := h
  replace h := bind_inv h
  obtain ⟨x, hx, h⟩ := h
  exact ⟨there_of Tryd.func55 (by kernel_rfl) api_Expr__55_p0_f19_body, _, _, h, api_Expr__55_p0_f19_con k l1 (⟨z16, z19⟩ : S51) x hx⟩

/-! (*cadastre/print.writer).name -/
noncomputable def print_writer_name_p0_code : Code := match Tryd.f86.body with | some c => c | none => .skip
theorem print_writer_name_p0_body : Tryd.f86.body = some print_writer_name_p0_code := by kernel_rfl
noncomputable def print_writer_name_p0_G {ρ : Type} (k : Nat) : Ans UX ρ := gk 29 (print_writer_put_p0_an k) (gnil)
theorem print_writer_name_p0_gok {ρ : Type} (k : Nat) : GOK Tryd.prog (print_writer_name_p0_G (ρ := ρ) k) := gok_cons (print_writer_put_p0_ok k) (gok_nil)
noncomputable def print_writer_name_p0_cfg {ρ : Type} (k : Nat) : Cfg UX ρ where
  live i := (assoc [(0, [0, 1])] i).getD []
  boxes i := (assoc [(0, [])] i).getD []
  tk i := (assoc [] i).getD []
  n := 8
  labelR l := (assoc [] l).getD 0
  loops := assoc []
  labels := assoc []
  joins := assoc []
  xl i e := match e with
    | .nxt => assoc [] i
    | .ret => assoc [] i
    | .exit j => (assoc [] i).bind fun l => assoc l j
    | .goto j => (assoc [] i).bind fun l => assoc l j
noncomputable def print_writer_name_p0_L : List Code := selI [] (loopsOf print_writer_name_p0_code)
noncomputable def print_writer_name_p0_J : List Code := selI [] (joinsOf print_writer_name_p0_code)
noncomputable def print_writer_name_p0_S : List Code := scopesOf print_writer_name_p0_code
theorem print_writer_name_p0_cok {ρ : Type} (k : Nat) : COK (print_writer_name_p0_cfg (ρ := ρ) k) (print_writer_name_p0_G k) print_writer_name_p0_code :=
  cok_of (tl := []) (tj := []) (tb := []) rfl rfl rfl (nil_all (by kernel_rfl)) (nil_all (by kernel_rfl)) (fun p hp => by cases hp)
noncomputable def print_writer_name_p0_enc (r : (Unit) × S51) : AV UU := .pv (.tup [])
noncomputable def print_writer_name_p0_bx (r : (Unit) × S51) : List (List (AV UU)) := [[.own (.li_u8 r.2.f0), .pv (.bool r.2.f1)]]
noncomputable def print_writer_name_p0_dec (v : AV UU) (b : List (List (AV UU))) : Option ((Unit) × S51) :=
asT v fun q1 =>
popN q1 <|
popA b fun c2 b3 =>
popA c2 fun v4 c5 =>
asO_li_u8 v4 fun z6 =>
popA c5 fun v7 c8 =>
asB v7 fun z9 =>
popN c8 <|
popN b3 <|
some ((), (⟨z6, z9⟩ : S51))
theorem print_writer_name_p0_dec_enc (v : AV UU) (b : List (List (AV UU))) (r : (Unit) × S51) (_ : b.length = 1) (h : print_writer_name_p0_dec v b = some r) : v = print_writer_name_p0_enc r ∧ b = print_writer_name_p0_bx r := by
  unfold print_writer_name_p0_dec at h
  replace h := asT_inv h; obtain ⟨q1, rfl, h⟩ := h
  replace h := popN_inv h; obtain ⟨rfl, h⟩ := h
  replace h := popA_inv h; obtain ⟨c2, b3, rfl, h⟩ := h
  replace h := popA_inv h; obtain ⟨v4, c5, rfl, h⟩ := h
  replace h := asO_li_u8_inv h; obtain ⟨z6, rfl, h⟩ := h
  replace h := popA_inv h; obtain ⟨v7, c8, rfl, h⟩ := h
  replace h := asB_inv h; obtain ⟨z9, rfl, h⟩ := h
  replace h := popN_inv h; obtain ⟨rfl, h⟩ := h
  replace h := popN_inv h; obtain ⟨rfl, h⟩ := h
  cases h
  exact ⟨rfl, rfl⟩
theorem print_writer_name_p0_eq (k : Nat) (s1 : ByteArray) (bx0 : S51) : bodyK UX (print_writer_name_p0_cfg k) (print_writer_name_p0_G k) Tryd.f86 [.ptr 1000 0, .pv (.str s1)] [[.own (.li_u8 bx0.f0), .pv (.bool bx0.f1)]] print_writer_name_p0_dec = print_writer_name_p0 k s1 bx0 := by kernel_rfl
theorem print_writer_name_p0_con (k : Nat) (s1 : ByteArray) (bx0 : S51) (r : (Unit) × S51) (h : print_writer_name_p0 k s1 bx0 = some r) : Con (X := UX) Tryd.prog 86 [.ptr 1000 0, .pv (.str s1)] [[.own (.li_u8 bx0.f0), .pv (.bool bx0.f1)]] (print_writer_name_p0_enc r) (print_writer_name_p0_bx r) :=
  con_of_bodyB (args := [.ptr 1000 0, .pv (.str s1)]) (bx := [[.own (.li_u8 bx0.f0), .pv (.bool bx0.f1)]]) xok tok Tryd.func86 print_writer_name_p0_body (print_writer_name_p0_gok k) rfl (print_writer_name_p0_cok k) (of_decide_eq_true (by kernel_rfl)) (.inr (of_decide_eq_true (by kernel_rfl))) (fun v b r hl => print_writer_name_p0_dec_enc v b r hl) ((print_writer_name_p0_eq k s1 bx0).trans h)
noncomputable def print_writer_name_p0_an {ρ : Type} (k : Nat) : An UX ρ := fun args bx K =>
popA args fun v1 a2 =>
asP 1000 0 v1 <|
popA a2 fun v3 a4 =>
asS v3 fun s1 =>
popN a4 <|
popA bx fun c5 b6 =>
popA c5 fun v7 c8 =>
asO_li_u8 v7 fun z9 =>
popA c8 fun v10 c11 =>
asB v10 fun z12 =>
popN c11 <|
popN b6 <|
(print_writer_name_p0 k s1 (⟨z9, z12⟩ : S51)).bind fun r => K (print_writer_name_p0_enc r) (print_writer_name_p0_bx r)
theorem print_writer_name_p0_ok {ρ : Type} (k : Nat) : AnsOK Tryd.prog 86 (print_writer_name_p0_an (ρ := ρ) k) := by
  intro args bx K r h
  unfold print_writer_name_p0_an at h
  replace h := popA_inv h; obtain ⟨v1, a2, rfl, h⟩ := h
  replace h := asP_inv h; obtain ⟨rfl, h⟩ := h
  replace h := popA_inv h; obtain ⟨v3, a4, rfl, h⟩ := h
  replace h := asS_inv h; obtain ⟨s1, rfl, h⟩ := h
  replace h := popN_inv h; obtain ⟨rfl, h⟩ := h
  replace h := popA_inv h; obtain ⟨c5, b6, rfl, h⟩ := h
  replace h := popA_inv h; obtain ⟨v7, c8, rfl, h⟩ := h
  replace h := asO_li_u8_inv h; obtain ⟨z9, rfl, h⟩ := h
  replace h := popA_inv h; obtain ⟨v10, c11, rfl, h⟩ := h
  replace h := asB_inv h; obtain ⟨z12, rfl, h⟩ := h
  replace h := popN_inv h; obtain ⟨rfl, h⟩ := h
  replace h := popN_inv h; obtain ⟨rfl, h⟩ := h
  replace h := bind_inv h
  obtain ⟨x, hx, h⟩ := h
  exact ⟨there_of Tryd.func86 (by kernel_rfl) print_writer_name_p0_body, _, _, h, print_writer_name_p0_con k s1 (⟨z9, z12⟩ : S51) x hx⟩

/-! cadastre/print.list[string] -/
noncomputable def print_list_string__p0_f86_code : Code := match Tryd.f85.body with | some c => c | none => .skip
theorem print_list_string__p0_f86_body : Tryd.f85.body = some print_list_string__p0_f86_code := by kernel_rfl
noncomputable def print_list_string__p0_f86_G {ρ : Type} (k : Nat) : Ans UX ρ := gk 29 (print_writer_put_p0_an k) (gk 86 (print_writer_name_p0_an k) (gnil))
theorem print_list_string__p0_f86_gok {ρ : Type} (k : Nat) : GOK Tryd.prog (print_list_string__p0_f86_G (ρ := ρ) k) := gok_cons (print_writer_put_p0_ok k) (gok_cons (print_writer_name_p0_ok k) (gok_nil))
noncomputable def print_list_string__p0_f86_l1_s {ρ : Type} (k : Nat) : Run UX ρ := fun s K =>
popS 0 s.env fun v1 e2 =>
asP 1000 0 v1 <|
popS 2 e2 fun v3 e4 =>
asF 86 v3 fun fa5 fb6 =>
popA fa5 fun c7 fb8 =>
asSP 1000 0 c7 <|
popN fb8 <|
popN fb6 <|
popS 8 e4 fun v10 e11 =>
as_ls v10 fun t8 =>
popS 9 e11 fun v12 e13 =>
asI .i64 v12 fun t9 =>
popS 10 e13 fun v14 e15 =>
asI .i64 v14 fun t10 =>
popN e15 <|
popB 1000 s.hp fun c16 e17 =>
popA c16 fun v18 c19 =>
asO_li_u8 v18 fun t1000_0 =>
popA c19 fun v20 c21 =>
asB v20 fun z22 =>
popN c21 <|
popN e17 <|
print_list_string__p0_f86_l1 k (fun t1000_0 t1000_1 => K (.exit 0) ⟨[], [(1000, [.own (.li_u8 t1000_0), .pv (.bool t1000_1)])]⟩) k t8 t9 t10 t1000_0 z22
noncomputable def print_list_string__p0_f86_cfg {ρ : Type} (k : Nat) : Cfg UX ρ where
  live i := (assoc [(0, [0, 1, 2]), (1, [0, 2, 8, 9, 10]), (2, [0, 2, 8, 9, 10]), (3, [0, 2, 6, 7, 8, 9, 10]), (4, [0, 2, 7, 8, 9, 10]), (5, [0, 2, 7, 8, 9, 10]), (6, [0, 2, 8, 9, 10])] i).getD []
  boxes i := (assoc [(0, []), (1, []), (2, []), (3, []), (4, []), (5, []), (6, [])] i).getD []
  tk i := (assoc [] i).getD []
  n := 24
  labelR l := (assoc [] l).getD 0
  loops := assoc [(1, print_list_string__p0_f86_l1_s k)]
  labels := assoc []
  joins := assoc []
  xl i e := match e with
    | .nxt => assoc [] i
    | .ret => assoc [] i
    | .exit j => (assoc [(1, [(0, ([], []))])] i).bind fun l => assoc l j
    | .goto j => (assoc [] i).bind fun l => assoc l j
noncomputable def print_list_string__p0_f86_L : List Code := selI [1] (loopsOf print_list_string__p0_f86_code)
noncomputable def print_list_string__p0_f86_J : List Code := selI [] (joinsOf print_list_string__p0_f86_code)
noncomputable def print_list_string__p0_f86_S : List Code := scopesOf print_list_string__p0_f86_code
theorem print_list_string__p0_f86_l1_eq0 {ρ : Type} (k : Nat) (K : Ex → St UU → Option ρ) : ∀ (n : Nat) (v : (List ByteArray) × Int × Int × (List Int) × Bool), iterK UX (fun s => s.at (print_list_string__p0_f86_cfg (ρ := ρ) k).live (print_list_string__p0_f86_cfg (ρ := ρ) k).boxes (some 1)) (exec UX (print_list_string__p0_f86_cfg k) (print_list_string__p0_f86_G k) (print_list_string__p0_f86_L.getD 0 .skip)) n ⟨[(0, .ptr 1000 0), (2, .fn 86 [.ptr 1000 0] []), (8, .pv (.typ (.ls v.1))), (9, .pv (.int .i64 v.2.1)), (10, .pv (.int .i64 v.2.2.1))], [(1000, [.own (.li_u8 v.2.2.2.1), .pv (.bool v.2.2.2.2)])]⟩ (nrmK UX (print_list_string__p0_f86_cfg k) 1 K) = print_list_string__p0_f86_l1 k (fun t1000_0 t1000_1 => K (.exit 0) ⟨[], [(1000, [.own (.li_u8 t1000_0), .pv (.bool t1000_1)])]⟩) n v.1 v.2.1 v.2.2.1 v.2.2.2.1 v.2.2.2.2 :=
  iter_rec (X := UX) (fun v => ⟨[(0, .ptr 1000 0), (2, .fn 86 [.ptr 1000 0] []), (8, .pv (.typ (.ls v.1))), (9, .pv (.int .i64 v.2.1)), (10, .pv (.int .i64 v.2.2.1))], [(1000, [.own (.li_u8 v.2.2.2.1), .pv (.bool v.2.2.2.2)])]⟩) (fun rec v => print_list_string__p0_f86_l1_b k (fun t1000_0 t1000_1 => K (.exit 0) ⟨[], [(1000, [.own (.li_u8 t1000_0), .pv (.bool t1000_1)])]⟩) (fun t8 t9 t10 t1000_0 t1000_1 => rec (t8, t9, t10, t1000_0, t1000_1)) v.1 v.2.1 v.2.2.1 v.2.2.2.1 v.2.2.2.2) (fun n v => print_list_string__p0_f86_l1 k (fun t1000_0 t1000_1 => K (.exit 0) ⟨[], [(1000, [.own (.li_u8 t1000_0), .pv (.bool t1000_1)])]⟩) n v.1 v.2.1 v.2.2.1 v.2.2.2.1 v.2.2.2.2) (fun n v => by kernel_rfl) (fun _ => rfl) (fun _ _ => rfl)
theorem print_list_string__p0_f86_l1_ok0 {ρ : Type} (k : Nat) : IterOK UX (print_list_string__p0_f86_cfg (ρ := ρ) k) (print_list_string__p0_f86_G k) (print_list_string__p0_f86_L.getD 0 .skip) 1 (print_list_string__p0_f86_l1_s k) := by
  intro s K r h
  obtain ⟨env, hp⟩ := s
  unfold print_list_string__p0_f86_l1_s at h
  replace h := popS_inv h; obtain ⟨v1, e2, rfl, h⟩ := h
  replace h := asP_inv h; obtain ⟨rfl, h⟩ := h
  replace h := popS_inv h; obtain ⟨v3, e4, rfl, h⟩ := h
  replace h := asF_inv h; obtain ⟨fa5, fb6, rfl, h⟩ := h
  replace h := popA_inv h; obtain ⟨c7, fb8, rfl, h⟩ := h
  replace h := asSP_inv h; obtain ⟨rfl, h⟩ := h
  replace h := popN_inv h; obtain ⟨rfl, h⟩ := h
  replace h := popN_inv h; obtain ⟨rfl, h⟩ := h
  replace h := popS_inv h; obtain ⟨v10, e11, rfl, h⟩ := h
  replace h := as_ls_inv h; obtain ⟨t8, rfl, h⟩ := h
  replace h := popS_inv h; obtain ⟨v12, e13, rfl, h⟩ := h
  replace h := asI_inv h; obtain ⟨t9, rfl, h⟩ := h
  replace h := popS_inv h; obtain ⟨v14, e15, rfl, h⟩ := h
  replace h := asI_inv h; obtain ⟨t10, rfl, h⟩ := h
  replace h := popN_inv h; obtain ⟨rfl, h⟩ := h
  replace h := popB_inv h; obtain ⟨c16, e17, rfl, h⟩ := h
  replace h := popA_inv h; obtain ⟨v18, c19, rfl, h⟩ := h
  replace h := asO_li_u8_inv h; obtain ⟨t1000_0, rfl, h⟩ := h
  replace h := popA_inv h; obtain ⟨v20, c21, rfl, h⟩ := h
  replace h := asB_inv h; obtain ⟨z22, rfl, h⟩ := h
  replace h := popN_inv h; obtain ⟨rfl, h⟩ := h
  replace h := popN_inv h; obtain ⟨rfl, h⟩ := h
  exact ⟨k, (print_list_string__p0_f86_l1_eq0 k K k (t8, t9, t10, t1000_0, z22)).trans h⟩
theorem print_list_string__p0_f86_cok {ρ : Type} (k : Nat) : COK (print_list_string__p0_f86_cfg (ρ := ρ) k) (print_list_string__p0_f86_G k) print_list_string__p0_f86_code :=
  cok_of (tl := [(1, print_list_string__p0_f86_l1_s k)]) (tj := []) (tb := []) rfl rfl rfl (all_nth 1 (by kernel_rfl) ⟨iter_case (by kernel_rfl) rfl (print_list_string__p0_f86_l1_ok0 k), trivial⟩) (nil_all (by kernel_rfl)) (fun p hp => by cases hp)
noncomputable def print_list_string__p0_f86_enc (r : (Unit) × S51) : AV UU := .pv (.tup [])
noncomputable def print_list_string__p0_f86_bx (r : (Unit) × S51) : List (List (AV UU)) := [[.own (.li_u8 r.2.f0), .pv (.bool r.2.f1)]]
noncomputable def print_list_string__p0_f86_dec (v : AV UU) (b : List (List (AV UU))) : Option ((Unit) × S51) :=
asT v fun q1 =>
popN q1 <|
popA b fun c2 b3 =>
popA c2 fun v4 c5 =>
asO_li_u8 v4 fun z6 =>
popA c5 fun v7 c8 =>
asB v7 fun z9 =>
popN c8 <|
popN b3 <|
some ((), (⟨z6, z9⟩ : S51))
theorem print_list_string__p0_f86_dec_enc (v : AV UU) (b : List (List (AV UU))) (r : (Unit) × S51) (_ : b.length = 1) (h : print_list_string__p0_f86_dec v b = some r) : v = print_list_string__p0_f86_enc r ∧ b = print_list_string__p0_f86_bx r := by
  unfold print_list_string__p0_f86_dec at h
  replace h := asT_inv h; obtain ⟨q1, rfl, h⟩ := h
  replace h := popN_inv h; obtain ⟨rfl, h⟩ := h
  replace h := popA_inv h; obtain ⟨c2, b3, rfl, h⟩ := h
  replace h := popA_inv h; obtain ⟨v4, c5, rfl, h⟩ := h
  replace h := asO_li_u8_inv h; obtain ⟨z6, rfl, h⟩ := h
  replace h := popA_inv h; obtain ⟨v7, c8, rfl, h⟩ := h
  replace h := asB_inv h; obtain ⟨z9, rfl, h⟩ := h
  replace h := popN_inv h; obtain ⟨rfl, h⟩ := h
  replace h := popN_inv h; obtain ⟨rfl, h⟩ := h
  cases h
  exact ⟨rfl, rfl⟩
theorem print_list_string__p0_f86_eq (k : Nat) (l1 : List ByteArray) (bx0 : S51) : bodyK UX (print_list_string__p0_f86_cfg k) (print_list_string__p0_f86_G k) Tryd.f85 [.ptr 1000 0, .pv (.typ (.ls l1)), .fn 86 [.ptr 1000 0] []] [[.own (.li_u8 bx0.f0), .pv (.bool bx0.f1)]] print_list_string__p0_f86_dec = print_list_string__p0_f86 k l1 bx0 := by kernel_rfl
theorem print_list_string__p0_f86_con (k : Nat) (l1 : List ByteArray) (bx0 : S51) (r : (Unit) × S51) (h : print_list_string__p0_f86 k l1 bx0 = some r) : Con (X := UX) Tryd.prog 85 [.ptr 1000 0, .pv (.typ (.ls l1)), .fn 86 [.ptr 1000 0] []] [[.own (.li_u8 bx0.f0), .pv (.bool bx0.f1)]] (print_list_string__p0_f86_enc r) (print_list_string__p0_f86_bx r) :=
  con_of_bodyB (args := [.ptr 1000 0, .pv (.typ (.ls l1)), .fn 86 [.ptr 1000 0] []]) (bx := [[.own (.li_u8 bx0.f0), .pv (.bool bx0.f1)]]) xok tok Tryd.func85 print_list_string__p0_f86_body (print_list_string__p0_f86_gok k) rfl (print_list_string__p0_f86_cok k) (of_decide_eq_true (by kernel_rfl)) (.inr (of_decide_eq_true (by kernel_rfl))) (fun v b r hl => print_list_string__p0_f86_dec_enc v b r hl) ((print_list_string__p0_f86_eq k l1 bx0).trans h)
noncomputable def print_list_string__p0_f86_an {ρ : Type} (k : Nat) : An UX ρ := fun args bx K =>
popA args fun v1 a2 =>
asP 1000 0 v1 <|
popA a2 fun v3 a4 =>
as_ls v3 fun l1 =>
popA a4 fun v5 a6 =>
asF 86 v5 fun fa7 fb8 =>
popA fa7 fun c9 fb10 =>
asSP 1000 0 c9 <|
popN fb10 <|
popN fb8 <|
popN a6 <|
popA bx fun c12 b13 =>
popA c12 fun v14 c15 =>
asO_li_u8 v14 fun z16 =>
popA c15 fun v17 c18 =>
asB v17 fun z19 =>
popN c18 <|
popN b13 <|
(print_list_string__p0_f86 k l1 (⟨z16, z19⟩ : S51)).bind fun r => K (print_list_string__p0_f86_enc r) (print_list_string__p0_f86_bx r)
theorem print_list_string__p0_f86_ok {ρ : Type} (k : Nat) : AnsOK Tryd.prog 85 (print_list_string__p0_f86_an (ρ := ρ) k) := by
  intro args bx K r h
  unfold print_list_string__p0_f86_an at h
  replace h := popA_inv h; obtain ⟨v1, a2, rfl, h⟩ := h
  replace h := asP_inv h; obtain ⟨rfl, h⟩ := h
  replace h := popA_inv h; obtain ⟨v3, a4, rfl, h⟩ := h
  replace h := as_ls_inv h; obtain ⟨l1, rfl, h⟩ := h
  replace h := popA_inv h; obtain ⟨v5, a6, rfl, h⟩ := h
  replace h := asF_inv h; obtain ⟨fa7, fb8, rfl, h⟩ := h
  replace h := popA_inv h; obtain ⟨c9, fb10, rfl, h⟩ := h
  replace h := asSP_inv h; obtain ⟨rfl, h⟩ := h
  replace h := popN_inv h; obtain ⟨rfl, h⟩ := h
  replace h := popN_inv h; obtain ⟨rfl, h⟩ := h
  replace h := popN_inv h; obtain ⟨rfl, h⟩ := h
  replace h := popA_inv h; obtain ⟨c12, b13, rfl, h⟩ := h
  replace h := popA_inv h; obtain ⟨v14, c15, rfl, h⟩ := h
  replace h := asO_li_u8_inv h; obtain ⟨z16, rfl, h⟩ := h
  replace h := popA_inv h; obtain ⟨v17, c18, rfl, h⟩ := h
  replace h := asB_inv h; obtain ⟨z19, rfl, h⟩ := h
  replace h := popN_inv h; obtain ⟨rfl, h⟩ := h
  replace h := popN_inv h; obtain ⟨rfl, h⟩ := h
  replace h := bind_inv h
  obtain ⟨x, hx, h⟩ := h
  exact ⟨there_of Tryd.func85 (by kernel_rfl) print_list_string__p0_f86_body, _, _, h, print_list_string__p0_f86_con k l1 (⟨z16, z19⟩ : S51) x hx⟩

/-! cadastre/print.list[cadastre/api.Order] -/
noncomputable def api_Order__p0_u2_code : Code := match Tryd.f87.body with | some c => c | none => .skip
theorem api_Order__p0_u2_body : Tryd.f87.body = some api_Order__p0_u2_code := by kernel_rfl
noncomputable def api_Order__p0_u2_G {ρ : Type} (k : Nat) : Ans UX ρ := gk 29 (print_writer_put_p0_an k) (gnil)
theorem api_Order__p0_u2_gok {ρ : Type} (k : Nat) : GOK Tryd.prog (api_Order__p0_u2_G (ρ := ρ) k) := gok_cons (print_writer_put_p0_ok k) (gok_nil)
noncomputable def api_Order__p0_u2_l1_s {ρ : Type} (k : Nat) : Run UX ρ := fun s K =>
popS 0 s.env fun v1 e2 =>
asP 1000 0 v1 <|
popS 8 e2 fun v3 e4 =>
as_l106 v3 fun t8 =>
popS 9 e4 fun v5 e6 =>
asI .i64 v5 fun t9 =>
popS 10 e6 fun v7 e8 =>
asI .i64 v7 fun t10 =>
popN e8 <|
popB 1000 s.hp fun c9 e10 =>
popA c9 fun v11 c12 =>
asO_li_u8 v11 fun t1000_0 =>
popA c12 fun v13 c14 =>
asB v13 fun z15 =>
popN c14 <|
popN e10 <|
api_Order__p0_u2_l1 k (fun t1000_0 t1000_1 => K (.exit 0) ⟨[], [(1000, [.own (.li_u8 t1000_0), .pv (.bool t1000_1)])]⟩) k t8 t9 t10 t1000_0 z15
noncomputable def api_Order__p0_u2_cfg {ρ : Type} (k : Nat) : Cfg UX ρ where
  live i := (assoc [(0, [0, 1, 2]), (1, [0, 8, 9, 10]), (2, [0, 2, 8, 9, 10]), (3, [0, 2, 6, 7, 8, 9, 10]), (4, [0, 2, 7, 8, 9, 10]), (5, [0, 2, 7, 8, 9, 10]), (6, [0, 2, 8, 9, 10])] i).getD []
  boxes i := (assoc [(0, []), (1, []), (2, []), (3, [7]), (4, [7]), (5, [7])] i).getD []
  tk i := (assoc [] i).getD []
  n := 24
  labelR l := (assoc [] l).getD 0
  loops := assoc [(1, api_Order__p0_u2_l1_s k)]
  labels := assoc []
  joins := assoc []
  xl i e := match e with
    | .nxt => assoc [] i
    | .ret => assoc [] i
    | .exit j => (assoc [(1, [(0, ([], []))])] i).bind fun l => assoc l j
    | .goto j => (assoc [] i).bind fun l => assoc l j
noncomputable def api_Order__p0_u2_L : List Code := selI [1] (loopsOf api_Order__p0_u2_code)
noncomputable def api_Order__p0_u2_J : List Code := selI [] (joinsOf api_Order__p0_u2_code)
noncomputable def api_Order__p0_u2_S : List Code := scopesOf api_Order__p0_u2_code
theorem api_Order__p0_u2_l1_eq0 {ρ : Type} (k : Nat) (K : Ex → St UU → Option ρ) : ∀ (n : Nat) (v : (List S106) × Int × Int × (List Int) × Bool), iterK UX (fun s => s.at (api_Order__p0_u2_cfg (ρ := ρ) k).live (api_Order__p0_u2_cfg (ρ := ρ) k).boxes (some 1)) (exec UX (api_Order__p0_u2_cfg k) (api_Order__p0_u2_G k) (api_Order__p0_u2_L.getD 0 .skip)) n ⟨[(0, .ptr 1000 0), (8, .pv (.typ (.l106 v.1))), (9, .pv (.int .i64 v.2.1)), (10, .pv (.int .i64 v.2.2.1))], [(1000, [.own (.li_u8 v.2.2.2.1), .pv (.bool v.2.2.2.2)])]⟩ (nrmK UX (api_Order__p0_u2_cfg k) 1 K) = api_Order__p0_u2_l1 k (fun t1000_0 t1000_1 => K (.exit 0) ⟨[], [(1000, [.own (.li_u8 t1000_0), .pv (.bool t1000_1)])]⟩) n v.1 v.2.1 v.2.2.1 v.2.2.2.1 v.2.2.2.2 :=
  iter_rec (X := UX) (fun v => ⟨[(0, .ptr 1000 0), (8, .pv (.typ (.l106 v.1))), (9, .pv (.int .i64 v.2.1)), (10, .pv (.int .i64 v.2.2.1))], [(1000, [.own (.li_u8 v.2.2.2.1), .pv (.bool v.2.2.2.2)])]⟩) (fun rec v => api_Order__p0_u2_l1_b k (fun t1000_0 t1000_1 => K (.exit 0) ⟨[], [(1000, [.own (.li_u8 t1000_0), .pv (.bool t1000_1)])]⟩) (fun t8 t9 t10 t1000_0 t1000_1 => rec (t8, t9, t10, t1000_0, t1000_1)) v.1 v.2.1 v.2.2.1 v.2.2.2.1 v.2.2.2.2) (fun n v => api_Order__p0_u2_l1 k (fun t1000_0 t1000_1 => K (.exit 0) ⟨[], [(1000, [.own (.li_u8 t1000_0), .pv (.bool t1000_1)])]⟩) n v.1 v.2.1 v.2.2.1 v.2.2.2.1 v.2.2.2.2) (fun n v => by kernel_rfl) (fun _ => rfl) (fun _ _ => rfl)
theorem api_Order__p0_u2_l1_ok0 {ρ : Type} (k : Nat) : IterOK UX (api_Order__p0_u2_cfg (ρ := ρ) k) (api_Order__p0_u2_G k) (api_Order__p0_u2_L.getD 0 .skip) 1 (api_Order__p0_u2_l1_s k) := by
  intro s K r h
  obtain ⟨env, hp⟩ := s
  unfold api_Order__p0_u2_l1_s at h
  replace h := popS_inv h; obtain ⟨v1, e2, rfl, h⟩ := h
  replace h := asP_inv h; obtain ⟨rfl, h⟩ := h
  replace h := popS_inv h; obtain ⟨v3, e4, rfl, h⟩ := h
  replace h := as_l106_inv h; obtain ⟨t8, rfl, h⟩ := h
  replace h := popS_inv h; obtain ⟨v5, e6, rfl, h⟩ := h
  replace h := asI_inv h; obtain ⟨t9, rfl, h⟩ := h
  replace h := popS_inv h; obtain ⟨v7, e8, rfl, h⟩ := h
  replace h := asI_inv h; obtain ⟨t10, rfl, h⟩ := h
  replace h := popN_inv h; obtain ⟨rfl, h⟩ := h
  replace h := popB_inv h; obtain ⟨c9, e10, rfl, h⟩ := h
  replace h := popA_inv h; obtain ⟨v11, c12, rfl, h⟩ := h
  replace h := asO_li_u8_inv h; obtain ⟨t1000_0, rfl, h⟩ := h
  replace h := popA_inv h; obtain ⟨v13, c14, rfl, h⟩ := h
  replace h := asB_inv h; obtain ⟨z15, rfl, h⟩ := h
  replace h := popN_inv h; obtain ⟨rfl, h⟩ := h
  replace h := popN_inv h; obtain ⟨rfl, h⟩ := h
  exact ⟨k, (api_Order__p0_u2_l1_eq0 k K k (t8, t9, t10, t1000_0, z15)).trans h⟩
theorem api_Order__p0_u2_cok {ρ : Type} (k : Nat) : COK (api_Order__p0_u2_cfg (ρ := ρ) k) (api_Order__p0_u2_G k) api_Order__p0_u2_code :=
  cok_of (tl := [(1, api_Order__p0_u2_l1_s k)]) (tj := []) (tb := []) rfl rfl rfl (all_nth 1 (by kernel_rfl) ⟨iter_case (by kernel_rfl) rfl (api_Order__p0_u2_l1_ok0 k), trivial⟩) (nil_all (by kernel_rfl)) (fun p hp => by cases hp)
noncomputable def api_Order__p0_u2_enc (r : (Unit) × S51) : AV UU := .pv (.tup [])
noncomputable def api_Order__p0_u2_bx (r : (Unit) × S51) : List (List (AV UU)) := [[.own (.li_u8 r.2.f0), .pv (.bool r.2.f1)]]
noncomputable def api_Order__p0_u2_dec (v : AV UU) (b : List (List (AV UU))) : Option ((Unit) × S51) :=
asT v fun q1 =>
popN q1 <|
popA b fun c2 b3 =>
popA c2 fun v4 c5 =>
asO_li_u8 v4 fun z6 =>
popA c5 fun v7 c8 =>
asB v7 fun z9 =>
popN c8 <|
popN b3 <|
some ((), (⟨z6, z9⟩ : S51))
theorem api_Order__p0_u2_dec_enc (v : AV UU) (b : List (List (AV UU))) (r : (Unit) × S51) (_ : b.length = 1) (h : api_Order__p0_u2_dec v b = some r) : v = api_Order__p0_u2_enc r ∧ b = api_Order__p0_u2_bx r := by
  unfold api_Order__p0_u2_dec at h
  replace h := asT_inv h; obtain ⟨q1, rfl, h⟩ := h
  replace h := popN_inv h; obtain ⟨rfl, h⟩ := h
  replace h := popA_inv h; obtain ⟨c2, b3, rfl, h⟩ := h
  replace h := popA_inv h; obtain ⟨v4, c5, rfl, h⟩ := h
  replace h := asO_li_u8_inv h; obtain ⟨z6, rfl, h⟩ := h
  replace h := popA_inv h; obtain ⟨v7, c8, rfl, h⟩ := h
  replace h := asB_inv h; obtain ⟨z9, rfl, h⟩ := h
  replace h := popN_inv h; obtain ⟨rfl, h⟩ := h
  replace h := popN_inv h; obtain ⟨rfl, h⟩ := h
  cases h
  exact ⟨rfl, rfl⟩
theorem api_Order__p0_u2_eq (k : Nat) (l1 : List S106) (bx0 : S51) : bodyK UX (api_Order__p0_u2_cfg k) (api_Order__p0_u2_G k) Tryd.f87 [.ptr 1000 0, .pv (.typ (.l106 l1)), .undef] [[.own (.li_u8 bx0.f0), .pv (.bool bx0.f1)]] api_Order__p0_u2_dec = api_Order__p0_u2 k l1 bx0 := by kernel_rfl
theorem api_Order__p0_u2_con (k : Nat) (l1 : List S106) (bx0 : S51) (r : (Unit) × S51) (h : api_Order__p0_u2 k l1 bx0 = some r) : Con (X := UX) Tryd.prog 87 [.ptr 1000 0, .pv (.typ (.l106 l1)), .undef] [[.own (.li_u8 bx0.f0), .pv (.bool bx0.f1)]] (api_Order__p0_u2_enc r) (api_Order__p0_u2_bx r) :=
  con_of_bodyB (args := [.ptr 1000 0, .pv (.typ (.l106 l1)), .undef]) (bx := [[.own (.li_u8 bx0.f0), .pv (.bool bx0.f1)]]) xok tok Tryd.func87 api_Order__p0_u2_body (api_Order__p0_u2_gok k) rfl (api_Order__p0_u2_cok k) (of_decide_eq_true (by kernel_rfl)) (.inr (of_decide_eq_true (by kernel_rfl))) (fun v b r hl => api_Order__p0_u2_dec_enc v b r hl) ((api_Order__p0_u2_eq k l1 bx0).trans h)
noncomputable def api_Order__p0_u2_an {ρ : Type} (k : Nat) : An UX ρ := fun args bx K =>
popA args fun v1 a2 =>
asP 1000 0 v1 <|
popA a2 fun v3 a4 =>
as_l106 v3 fun l1 =>
popA a4 fun v5 a6 =>
asUn v5 <|
popN a6 <|
popA bx fun c7 b8 =>
popA c7 fun v9 c10 =>
asO_li_u8 v9 fun z11 =>
popA c10 fun v12 c13 =>
asB v12 fun z14 =>
popN c13 <|
popN b8 <|
(api_Order__p0_u2 k l1 (⟨z11, z14⟩ : S51)).bind fun r => K (api_Order__p0_u2_enc r) (api_Order__p0_u2_bx r)
theorem api_Order__p0_u2_ok {ρ : Type} (k : Nat) : AnsOK Tryd.prog 87 (api_Order__p0_u2_an (ρ := ρ) k) := by
  intro args bx K r h
  unfold api_Order__p0_u2_an at h
  replace h := popA_inv h; obtain ⟨v1, a2, rfl, h⟩ := h
  replace h := asP_inv h; obtain ⟨rfl, h⟩ := h
  replace h := popA_inv h; obtain ⟨v3, a4, rfl, h⟩ := h
  replace h := as_l106_inv h; obtain ⟨l1, rfl, h⟩ := h
  replace h := popA_inv h; obtain ⟨v5, a6, rfl, h⟩ := h
  replace h := asUn_inv h; obtain ⟨rfl, h⟩ := h
  replace h := popN_inv h; obtain ⟨rfl, h⟩ := h
  replace h := popA_inv h; obtain ⟨c7, b8, rfl, h⟩ := h
  replace h := popA_inv h; obtain ⟨v9, c10, rfl, h⟩ := h
  replace h := asO_li_u8_inv h; obtain ⟨z11, rfl, h⟩ := h
  replace h := popA_inv h; obtain ⟨v12, c13, rfl, h⟩ := h
  replace h := asB_inv h; obtain ⟨z14, rfl, h⟩ := h
  replace h := popN_inv h; obtain ⟨rfl, h⟩ := h
  replace h := popN_inv h; obtain ⟨rfl, h⟩ := h
  replace h := bind_inv h
  obtain ⟨x, hx, h⟩ := h
  exact ⟨there_of Tryd.func87 (by kernel_rfl) api_Order__p0_u2_body, _, _, h, api_Order__p0_u2_con k l1 (⟨z11, z14⟩ : S51) x hx⟩

/-! (*cadastre/print.writer).query -/
noncomputable def print_writer_query_p0_code : Code := match Tryd.f59.body with | some c => c | none => .skip
theorem print_writer_query_p0_body : Tryd.f59.body = some print_writer_query_p0_code := by kernel_rfl
noncomputable def print_writer_query_p0_G {ρ : Type} (k : Nat) : Ans UX ρ := gk 29 (print_writer_put_p0_an k) (gk 55 (api_Expr__55_p0_f19_an k) (gk 85 (print_list_string__p0_f86_an k) (gk 56 (print_writer_where_p0_an k) (gk 87 (api_Order__p0_u2_an k) (gnil)))))
theorem print_writer_query_p0_gok {ρ : Type} (k : Nat) : GOK Tryd.prog (print_writer_query_p0_G (ρ := ρ) k) := gok_cons (print_writer_put_p0_ok k) (gok_cons (api_Expr__55_p0_f19_ok k) (gok_cons (print_list_string__p0_f86_ok k) (gok_cons (print_writer_where_p0_ok k) (gok_cons (api_Order__p0_u2_ok k) (gok_nil)))))
noncomputable def print_writer_query_p0_j4_s {ρ : Type} (k : Nat) : Run UX ρ := fun s K =>
popS 2 s.env fun v1 e2 =>
asP 2 0 v1 <|
popS 3 e2 fun v3 e4 =>
asP 3 0 v3 <|
popN e4 <|
popB 2 s.hp fun c5 e6 =>
popA c5 fun v7 c8 =>
asP 1000 0 v7 <|
popN c8 <|
popB 3 e6 fun c9 e10 =>
popA c9 fun v11 c12 =>
asI .i64 v11 fun z13 =>
popA c12 fun v14 c15 =>
asS v14 fun z16 =>
popA c15 fun v17 c18 =>
asS v17 fun z19 =>
popA c18 fun v20 c21 =>
asB v20 fun z22 =>
popA c21 fun v23 c24 =>
as_l113 v23 fun z25 =>
popA c24 fun v26 c27 =>
as_ls v26 fun z28 =>
popA c27 fun v29 c30 =>
as_ll25 v29 fun z31 =>
popA c30 fun v32 c33 =>
as_l90 v32 fun z34 =>
popA c33 fun v35 c36 =>
as_ls v35 fun z37 =>
popA c36 fun v38 c39 =>
asB v38 fun z40 =>
popA c39 fun v41 c42 =>
as_l25 v41 fun z43 =>
popA c42 fun v44 c45 =>
as_l25 v44 fun z46 =>
popA c45 fun v47 c48 =>
as_l106 v47 fun z49 =>
popN c48 <|
popB 1000 e10 fun c50 e51 =>
popA c50 fun v52 c53 =>
asO_li_u8 v52 fun t1000_0 =>
popA c53 fun v54 c55 =>
asB v54 fun z56 =>
popN c55 <|
popN e51 <|
print_writer_query_p0_j4 k (fun t1000_0 t1000_1 => K .nxt ⟨[], [(1000, [.own (.li_u8 t1000_0), .pv (.bool t1000_1)])]⟩) (⟨z13, z16, z19, z22, z25, z28, z31, z34, z37, z40, z43, z46, z49⟩ : S60) t1000_0 z56
noncomputable def print_writer_query_p0_cfg {ρ : Type} (k : Nat) : Cfg UX ρ where
  live i := (assoc [(0, [0, 1]), (1, [2, 3]), (2, [2, 3]), (3, [2, 3]), (4, [2, 3]), (5, [2, 3]), (6, [2, 3]), (7, [2, 3]), (8, [2, 3]), (9, [2, 3]), (10, [2, 3])] i).getD []
  boxes i := (assoc [(0, []), (1, [2, 3]), (2, [2, 3]), (3, [2, 3]), (4, [2, 3]), (5, [2, 3]), (6, [2, 3]), (7, [2, 3]), (8, [2, 3]), (9, [2, 3]), (10, [2, 3])] i).getD []
  tk i := (assoc [(1000002, [41])] i).getD []
  n := 43
  labelR l := (assoc [] l).getD 0
  loops := assoc []
  labels := assoc []
  joins := assoc [(4, print_writer_query_p0_j4_s k)]
  xl i e := match e with
    | .nxt => assoc [(4, ([], []))] i
    | .ret => assoc [] i
    | .exit j => (assoc [] i).bind fun l => assoc l j
    | .goto j => (assoc [] i).bind fun l => assoc l j
noncomputable def print_writer_query_p0_L : List Code := selI [] (loopsOf print_writer_query_p0_code)
noncomputable def print_writer_query_p0_J : List Code := selI [4] (joinsOf print_writer_query_p0_code)
noncomputable def print_writer_query_p0_S : List Code := scopesOf print_writer_query_p0_code
theorem print_writer_query_p0_j4_eq0 {ρ : Type} (k : Nat) (K : Ex → St UU → Option ρ) (s3 : S60) (t1000_0 : List Int) (t1000_1 : Bool) : exec UX (print_writer_query_p0_cfg k) (print_writer_query_p0_G k) (print_writer_query_p0_J.getD 0 .skip) ⟨[(2, .ptr 2 0), (3, .ptr 3 0)], [(2, [.ptr 1000 0]), (3, [.pv (.int .i64 s3.f0), .pv (.str s3.f1), .pv (.str s3.f2), .pv (.bool s3.f3), .pv (.typ (.l113 s3.f4)), .pv (.typ (.ls s3.f5)), .pv (.typ (.ll25 s3.f6)), .pv (.typ (.l90 s3.f7)), .pv (.typ (.ls s3.f8)), .pv (.bool s3.f9), .pv (.typ (.l25 s3.f10)), .pv (.typ (.l25 s3.f11)), .pv (.typ (.l106 s3.f12))]), (1000, [.own (.li_u8 t1000_0), .pv (.bool t1000_1)])]⟩ (nrmK UX (print_writer_query_p0_cfg k) 4 K) = print_writer_query_p0_j4 k (fun t1000_0 t1000_1 => K .nxt ⟨[], [(1000, [.own (.li_u8 t1000_0), .pv (.bool t1000_1)])]⟩) s3 t1000_0 t1000_1 := by kernel_rfl
theorem print_writer_query_p0_j4_ok0 {ρ : Type} (k : Nat) : JoinOK UX (print_writer_query_p0_cfg (ρ := ρ) k) (print_writer_query_p0_G k) (print_writer_query_p0_J.getD 0 .skip) 4 (print_writer_query_p0_j4_s k) := by
  intro s K r h
  obtain ⟨env, hp⟩ := s
  unfold print_writer_query_p0_j4_s at h
  replace h := popS_inv h; obtain ⟨v1, e2, rfl, h⟩ := h
  replace h := asP_inv h; obtain ⟨rfl, h⟩ := h
  replace h := popS_inv h; obtain ⟨v3, e4, rfl, h⟩ := h
  replace h := asP_inv h; obtain ⟨rfl, h⟩ := h
  replace h := popN_inv h; obtain ⟨rfl, h⟩ := h
  replace h := popB_inv h; obtain ⟨c5, e6, rfl, h⟩ := h
  replace h := popA_inv h; obtain ⟨v7, c8, rfl, h⟩ := h
  replace h := asP_inv h; obtain ⟨rfl, h⟩ := h
  replace h := popN_inv h; obtain ⟨rfl, h⟩ := h
  replace h := popB_inv h; obtain ⟨c9, e10, rfl, h⟩ := h
  replace h := popA_inv h; obtain ⟨v11, c12, rfl, h⟩ := h
  replace h := asI_inv h; obtain ⟨z13, rfl, h⟩ := h
  replace h := popA_inv h; obtain ⟨v14, c15, rfl, h⟩ := h
  replace h := asS_inv h; obtain ⟨z16, rfl, h⟩ := h
  replace h := popA_inv h; obtain ⟨v17, c18, rfl, h⟩ := h
  replace h := asS_inv h; obtain ⟨z19, rfl, h⟩ := h
  replace h := popA_inv h; obtain ⟨v20, c21, rfl, h⟩ := h
  replace h := asB_inv h; obtain ⟨z22, rfl, h⟩ := h
  replace h := popA_inv h; obtain ⟨v23, c24, rfl, h⟩ := h
  replace h := as_l113_inv h; obtain ⟨z25, rfl, h⟩ := h
  replace h := popA_inv h; obtain ⟨v26, c27, rfl, h⟩ := h
  replace h := as_ls_inv h; obtain ⟨z28, rfl, h⟩ := h
  replace h := popA_inv h; obtain ⟨v29, c30, rfl, h⟩ := h
  replace h := as_ll25_inv h; obtain ⟨z31, rfl, h⟩ := h
  replace h := popA_inv h; obtain ⟨v32, c33, rfl, h⟩ := h
  replace h := as_l90_inv h; obtain ⟨z34, rfl, h⟩ := h
  replace h := popA_inv h; obtain ⟨v35, c36, rfl, h⟩ := h
  replace h := as_ls_inv h; obtain ⟨z37, rfl, h⟩ := h
  replace h := popA_inv h; obtain ⟨v38, c39, rfl, h⟩ := h
  replace h := asB_inv h; obtain ⟨z40, rfl, h⟩ := h
  replace h := popA_inv h; obtain ⟨v41, c42, rfl, h⟩ := h
  replace h := as_l25_inv h; obtain ⟨z43, rfl, h⟩ := h
  replace h := popA_inv h; obtain ⟨v44, c45, rfl, h⟩ := h
  replace h := as_l25_inv h; obtain ⟨z46, rfl, h⟩ := h
  replace h := popA_inv h; obtain ⟨v47, c48, rfl, h⟩ := h
  replace h := as_l106_inv h; obtain ⟨z49, rfl, h⟩ := h
  replace h := popN_inv h; obtain ⟨rfl, h⟩ := h
  replace h := popB_inv h; obtain ⟨c50, e51, rfl, h⟩ := h
  replace h := popA_inv h; obtain ⟨v52, c53, rfl, h⟩ := h
  replace h := asO_li_u8_inv h; obtain ⟨t1000_0, rfl, h⟩ := h
  replace h := popA_inv h; obtain ⟨v54, c55, rfl, h⟩ := h
  replace h := asB_inv h; obtain ⟨z56, rfl, h⟩ := h
  replace h := popN_inv h; obtain ⟨rfl, h⟩ := h
  replace h := popN_inv h; obtain ⟨rfl, h⟩ := h
  exact (print_writer_query_p0_j4_eq0 k K (⟨z13, z16, z19, z22, z25, z28, z31, z34, z37, z40, z43, z46, z49⟩ : S60) t1000_0 z56).trans h
theorem print_writer_query_p0_cok {ρ : Type} (k : Nat) : COK (print_writer_query_p0_cfg (ρ := ρ) k) (print_writer_query_p0_G k) print_writer_query_p0_code :=
  cok_of (tl := []) (tj := [(4, print_writer_query_p0_j4_s k)]) (tb := []) rfl rfl rfl (nil_all (by kernel_rfl)) (all_nth 1 (by kernel_rfl) ⟨join_case (by kernel_rfl) rfl (print_writer_query_p0_j4_ok0 k), trivial⟩) (fun p hp => by cases hp)
noncomputable def print_writer_query_p0_enc (r : (Unit) × S51) : AV UU := .pv (.tup [])
noncomputable def print_writer_query_p0_bx (r : (Unit) × S51) : List (List (AV UU)) := [[.own (.li_u8 r.2.f0), .pv (.bool r.2.f1)]]
noncomputable def print_writer_query_p0_dec (v : AV UU) (b : List (List (AV UU))) : Option ((Unit) × S51) :=
asT v fun q1 =>
popN q1 <|
popA b fun c2 b3 =>
popA c2 fun v4 c5 =>
asO_li_u8 v4 fun z6 =>
popA c5 fun v7 c8 =>
asB v7 fun z9 =>
popN c8 <|
popN b3 <|
some ((), (⟨z6, z9⟩ : S51))
theorem print_writer_query_p0_dec_enc (v : AV UU) (b : List (List (AV UU))) (r : (Unit) × S51) (_ : b.length = 1) (h : print_writer_query_p0_dec v b = some r) : v = print_writer_query_p0_enc r ∧ b = print_writer_query_p0_bx r := by
  unfold print_writer_query_p0_dec at h
  replace h := asT_inv h; obtain ⟨q1, rfl, h⟩ := h
  replace h := popN_inv h; obtain ⟨rfl, h⟩ := h
  replace h := popA_inv h; obtain ⟨c2, b3, rfl, h⟩ := h
  replace h := popA_inv h; obtain ⟨v4, c5, rfl, h⟩ := h
  replace h := asO_li_u8_inv h; obtain ⟨z6, rfl, h⟩ := h
  replace h := popA_inv h; obtain ⟨v7, c8, rfl, h⟩ := h
  replace h := asB_inv h; obtain ⟨z9, rfl, h⟩ := h
  replace h := popN_inv h; obtain ⟨rfl, h⟩ := h
  replace h := popN_inv h; obtain ⟨rfl, h⟩ := h
  cases h
  exact ⟨rfl, rfl⟩
theorem print_writer_query_p0_eq (k : Nat) (s1 : S60) (bx0 : S51) : bodyK UX (print_writer_query_p0_cfg k) (print_writer_query_p0_G k) Tryd.f59 [.ptr 1000 0, .pv (.typ (.s60 s1))] [[.own (.li_u8 bx0.f0), .pv (.bool bx0.f1)]] print_writer_query_p0_dec = print_writer_query_p0 k s1 bx0 := by kernel_rfl
theorem print_writer_query_p0_con (k : Nat) (s1 : S60) (bx0 : S51) (r : (Unit) × S51) (h : print_writer_query_p0 k s1 bx0 = some r) : Con (X := UX) Tryd.prog 59 [.ptr 1000 0, .pv (.typ (.s60 s1))] [[.own (.li_u8 bx0.f0), .pv (.bool bx0.f1)]] (print_writer_query_p0_enc r) (print_writer_query_p0_bx r) :=
  con_of_bodyB (args := [.ptr 1000 0, .pv (.typ (.s60 s1))]) (bx := [[.own (.li_u8 bx0.f0), .pv (.bool bx0.f1)]]) xok tok Tryd.func59 print_writer_query_p0_body (print_writer_query_p0_gok k) rfl (print_writer_query_p0_cok k) (of_decide_eq_true (by kernel_rfl)) (.inr (of_decide_eq_true (by kernel_rfl))) (fun v b r hl => print_writer_query_p0_dec_enc v b r hl) ((print_writer_query_p0_eq k s1 bx0).trans h)
noncomputable def print_writer_query_p0_an {ρ : Type} (k : Nat) : An UX ρ := fun args bx K =>
popA args fun v1 a2 =>
asP 1000 0 v1 <|
popA a2 fun v3 a4 =>
as_s60 v3 fun s1 =>
popN a4 <|
popA bx fun c5 b6 =>
popA c5 fun v7 c8 =>
asO_li_u8 v7 fun z9 =>
popA c8 fun v10 c11 =>
asB v10 fun z12 =>
popN c11 <|
popN b6 <|
(print_writer_query_p0 k s1 (⟨z9, z12⟩ : S51)).bind fun r => K (print_writer_query_p0_enc r) (print_writer_query_p0_bx r)
theorem print_writer_query_p0_ok {ρ : Type} (k : Nat) : AnsOK Tryd.prog 59 (print_writer_query_p0_an (ρ := ρ) k) := by
  intro args bx K r h
  unfold print_writer_query_p0_an at h
  replace h := popA_inv h; obtain ⟨v1, a2, rfl, h⟩ := h
  replace h := asP_inv h; obtain ⟨rfl, h⟩ := h
  replace h := popA_inv h; obtain ⟨v3, a4, rfl, h⟩ := h
  replace h := as_s60_inv h; obtain ⟨s1, rfl, h⟩ := h
  replace h := popN_inv h; obtain ⟨rfl, h⟩ := h
  replace h := popA_inv h; obtain ⟨c5, b6, rfl, h⟩ := h
  replace h := popA_inv h; obtain ⟨v7, c8, rfl, h⟩ := h
  replace h := asO_li_u8_inv h; obtain ⟨z9, rfl, h⟩ := h
  replace h := popA_inv h; obtain ⟨v10, c11, rfl, h⟩ := h
  replace h := asB_inv h; obtain ⟨z12, rfl, h⟩ := h
  replace h := popN_inv h; obtain ⟨rfl, h⟩ := h
  replace h := popN_inv h; obtain ⟨rfl, h⟩ := h
  replace h := bind_inv h
  obtain ⟨x, hx, h⟩ := h
  exact ⟨there_of Tryd.func59 (by kernel_rfl) print_writer_query_p0_body, _, _, h, print_writer_query_p0_con k s1 (⟨z9, z12⟩ : S51) x hx⟩

/-! (*cadastre/print.writer).stmt -/
noncomputable def print_writer_stmt_p0_code : Code := match Tryd.f37.body with | some c => c | none => .skip
theorem print_writer_stmt_p0_body : Tryd.f37.body = some print_writer_stmt_p0_code := by kernel_rfl
noncomputable def print_writer_stmt_p0_G {ρ : Type} (k : Nat) : Ans UX ρ := gk 29 (print_writer_put_p0_an k) (gk 52 (api_Expr__p0_u2_an k) (gk 56 (print_writer_where_p0_an k) (gk 57 (api_Set__p0_u2_an k) (gk 59 (print_writer_query_p0_an k) (gnil)))))
theorem print_writer_stmt_p0_gok {ρ : Type} (k : Nat) : GOK Tryd.prog (print_writer_stmt_p0_G (ρ := ρ) k) := gok_cons (print_writer_put_p0_ok k) (gok_cons (api_Expr__p0_u2_ok k) (gok_cons (print_writer_where_p0_ok k) (gok_cons (api_Set__p0_u2_ok k) (gok_cons (print_writer_query_p0_ok k) (gok_nil)))))
noncomputable def print_writer_stmt_p0_cfg {ρ : Type} (k : Nat) : Cfg UX ρ where
  live i := (assoc [(0, [0, 1]), (1, [2, 3]), (2, [2, 3]), (3, [2, 3, 5]), (4, [2, 3]), (5, [2, 3, 5]), (6, [2, 3]), (7, [2, 3, 5]), (8, [2, 3]), (9, [2, 3]), (10, [2, 3, 5]), (11, [2, 3]), (12, [2, 3]), (13, [2, 3, 5]), (14, [2, 3]), (15, [2, 3]), (16, [2, 3]), (17, [2, 3, 5]), (18, [2, 3]), (19, [2, 3, 5]), (20, [2]), (21, [2, 3, 5]), (22, [2]), (23, [2, 3, 5]), (24, [2])] i).getD []
  boxes i := (assoc [(0, []), (1, [2, 3]), (2, [2, 3]), (3, [2, 3]), (4, [2, 3]), (5, [2, 3]), (6, [2, 3]), (7, [2, 3]), (8, [2, 3]), (9, [2, 3]), (10, [2, 3]), (11, [2, 3]), (12, [2, 3]), (13, [2, 3]), (14, [2, 3]), (15, [2, 3]), (16, [2, 3]), (17, [2, 3]), (18, [2, 3]), (19, [2, 3]), (20, [2]), (21, [2, 3]), (22, [2]), (23, [2, 3]), (24, [2])] i).getD []
  tk i := (assoc [(1000002, [33, 56])] i).getD []
  n := 82
  labelR l := (assoc [] l).getD 0
  loops := assoc []
  labels := assoc []
  joins := assoc []
  xl i e := match e with
    | .nxt => assoc [] i
    | .ret => assoc [] i
    | .exit j => (assoc [] i).bind fun l => assoc l j
    | .goto j => (assoc [] i).bind fun l => assoc l j
noncomputable def print_writer_stmt_p0_L : List Code := selI [] (loopsOf print_writer_stmt_p0_code)
noncomputable def print_writer_stmt_p0_J : List Code := selI [] (joinsOf print_writer_stmt_p0_code)
noncomputable def print_writer_stmt_p0_S : List Code := scopesOf print_writer_stmt_p0_code
theorem print_writer_stmt_p0_cok {ρ : Type} (k : Nat) : COK (print_writer_stmt_p0_cfg (ρ := ρ) k) (print_writer_stmt_p0_G k) print_writer_stmt_p0_code :=
  cok_of (tl := []) (tj := []) (tb := []) rfl rfl rfl (nil_all (by kernel_rfl)) (nil_all (by kernel_rfl)) (fun p hp => by cases hp)
noncomputable def print_writer_stmt_p0_enc (r : (Unit) × S51) : AV UU := .pv (.tup [])
noncomputable def print_writer_stmt_p0_bx (r : (Unit) × S51) : List (List (AV UU)) := [[.own (.li_u8 r.2.f0), .pv (.bool r.2.f1)]]
noncomputable def print_writer_stmt_p0_dec (v : AV UU) (b : List (List (AV UU))) : Option ((Unit) × S51) :=
asT v fun q1 =>
popN q1 <|
popA b fun c2 b3 =>
popA c2 fun v4 c5 =>
asO_li_u8 v4 fun z6 =>
popA c5 fun v7 c8 =>
asB v7 fun z9 =>
popN c8 <|
popN b3 <|
some ((), (⟨z6, z9⟩ : S51))
theorem print_writer_stmt_p0_dec_enc (v : AV UU) (b : List (List (AV UU))) (r : (Unit) × S51) (_ : b.length = 1) (h : print_writer_stmt_p0_dec v b = some r) : v = print_writer_stmt_p0_enc r ∧ b = print_writer_stmt_p0_bx r := by
  unfold print_writer_stmt_p0_dec at h
  replace h := asT_inv h; obtain ⟨q1, rfl, h⟩ := h
  replace h := popN_inv h; obtain ⟨rfl, h⟩ := h
  replace h := popA_inv h; obtain ⟨c2, b3, rfl, h⟩ := h
  replace h := popA_inv h; obtain ⟨v4, c5, rfl, h⟩ := h
  replace h := asO_li_u8_inv h; obtain ⟨z6, rfl, h⟩ := h
  replace h := popA_inv h; obtain ⟨v7, c8, rfl, h⟩ := h
  replace h := asB_inv h; obtain ⟨z9, rfl, h⟩ := h
  replace h := popN_inv h; obtain ⟨rfl, h⟩ := h
  replace h := popN_inv h; obtain ⟨rfl, h⟩ := h
  cases h
  exact ⟨rfl, rfl⟩
theorem print_writer_stmt_p0_eq (k : Nat) (s1 : S60) (bx0 : S51) : bodyK UX (print_writer_stmt_p0_cfg k) (print_writer_stmt_p0_G k) Tryd.f37 [.ptr 1000 0, .pv (.typ (.s60 s1))] [[.own (.li_u8 bx0.f0), .pv (.bool bx0.f1)]] print_writer_stmt_p0_dec = print_writer_stmt_p0 k s1 bx0 := by kernel_rfl
theorem print_writer_stmt_p0_con (k : Nat) (s1 : S60) (bx0 : S51) (r : (Unit) × S51) (h : print_writer_stmt_p0 k s1 bx0 = some r) : Con (X := UX) Tryd.prog 37 [.ptr 1000 0, .pv (.typ (.s60 s1))] [[.own (.li_u8 bx0.f0), .pv (.bool bx0.f1)]] (print_writer_stmt_p0_enc r) (print_writer_stmt_p0_bx r) :=
  con_of_bodyB (args := [.ptr 1000 0, .pv (.typ (.s60 s1))]) (bx := [[.own (.li_u8 bx0.f0), .pv (.bool bx0.f1)]]) xok tok Tryd.func37 print_writer_stmt_p0_body (print_writer_stmt_p0_gok k) rfl (print_writer_stmt_p0_cok k) (of_decide_eq_true (by kernel_rfl)) (.inr (of_decide_eq_true (by kernel_rfl))) (fun v b r hl => print_writer_stmt_p0_dec_enc v b r hl) ((print_writer_stmt_p0_eq k s1 bx0).trans h)
noncomputable def print_writer_stmt_p0_an {ρ : Type} (k : Nat) : An UX ρ := fun args bx K =>
popA args fun v1 a2 =>
asP 1000 0 v1 <|
popA a2 fun v3 a4 =>
as_s60 v3 fun s1 =>
popN a4 <|
popA bx fun c5 b6 =>
popA c5 fun v7 c8 =>
asO_li_u8 v7 fun z9 =>
popA c8 fun v10 c11 =>
asB v10 fun z12 =>
popN c11 <|
popN b6 <|
(print_writer_stmt_p0 k s1 (⟨z9, z12⟩ : S51)).bind fun r => K (print_writer_stmt_p0_enc r) (print_writer_stmt_p0_bx r)
theorem print_writer_stmt_p0_ok {ρ : Type} (k : Nat) : AnsOK Tryd.prog 37 (print_writer_stmt_p0_an (ρ := ρ) k) := by
  intro args bx K r h
  unfold print_writer_stmt_p0_an at h
  replace h := popA_inv h; obtain ⟨v1, a2, rfl, h⟩ := h
  replace h := asP_inv h; obtain ⟨rfl, h⟩ := h
  replace h := popA_inv h; obtain ⟨v3, a4, rfl, h⟩ := h
  replace h := as_s60_inv h; obtain ⟨s1, rfl, h⟩ := h
  replace h := popN_inv h; obtain ⟨rfl, h⟩ := h
  replace h := popA_inv h; obtain ⟨c5, b6, rfl, h⟩ := h
  replace h := popA_inv h; obtain ⟨v7, c8, rfl, h⟩ := h
  replace h := asO_li_u8_inv h; obtain ⟨z9, rfl, h⟩ := h
  replace h := popA_inv h; obtain ⟨v10, c11, rfl, h⟩ := h
  replace h := asB_inv h; obtain ⟨z12, rfl, h⟩ := h
  replace h := popN_inv h; obtain ⟨rfl, h⟩ := h
  replace h := popN_inv h; obtain ⟨rfl, h⟩ := h
  replace h := bind_inv h
  obtain ⟨x, hx, h⟩ := h
  exact ⟨there_of Tryd.func37 (by kernel_rfl) print_writer_stmt_p0_body, _, _, h, print_writer_stmt_p0_con k s1 (⟨z9, z12⟩ : S51) x hx⟩

/-! cadastre/print.Print -/
noncomputable def print_Print_code : Code := match Tryd.f20.body with | some c => c | none => .skip
theorem print_Print_body : Tryd.f20.body = some print_Print_code := by kernel_rfl
noncomputable def print_Print_G {ρ : Type} (k : Nat) : Ans UX ρ := gk 36 (print_May_an k) (gk 37 (print_writer_stmt_p0_an k) (gnil))
theorem print_Print_gok {ρ : Type} (k : Nat) : GOK Tryd.prog (print_Print_G (ρ := ρ) k) := gok_cons (print_May_ok k) (gok_cons (print_writer_stmt_p0_ok k) (gok_nil))
noncomputable def print_Print_cfg {ρ : Type} (k : Nat) : Cfg UX ρ where
  live i := (assoc [(0, [0]), (1, [1]), (2, []), (3, [1]), (4, [1, 4]), (5, [4]), (6, []), (7, [4])] i).getD []
  boxes i := (assoc [(0, []), (1, [1]), (2, []), (3, [1]), (4, [1, 9]), (5, [9]), (6, []), (7, [9])] i).getD []
  tk i := (assoc [] i).getD []
  n := 24
  labelR l := (assoc [] l).getD 0
  loops := assoc []
  labels := assoc []
  joins := assoc []
  xl i e := match e with
    | .nxt => assoc [] i
    | .ret => assoc [] i
    | .exit j => (assoc [] i).bind fun l => assoc l j
    | .goto j => (assoc [] i).bind fun l => assoc l j
noncomputable def print_Print_L : List Code := selI [] (loopsOf print_Print_code)
noncomputable def print_Print_J : List Code := selI [] (joinsOf print_Print_code)
noncomputable def print_Print_S : List Code := scopesOf print_Print_code
theorem print_Print_cok {ρ : Type} (k : Nat) : COK (print_Print_cfg (ρ := ρ) k) (print_Print_G k) print_Print_code :=
  cok_of (tl := []) (tj := []) (tb := []) rfl rfl rfl (nil_all (by kernel_rfl)) (nil_all (by kernel_rfl)) (fun p hp => by cases hp)
noncomputable def print_Print_enc (r : ByteArray × Int) : AV UU := .pv (.tup [.str r.1, .int .i64 r.2])
noncomputable def print_Print_dec (v : AV UU) (_ : List (List (AV UU))) : Option (ByteArray × Int) :=
asT v fun q1 =>
popA q1 fun p2 q3 =>
asS (.pv p2) fun r0 =>
popA q3 fun p4 q5 =>
asI .i64 (.pv p4) fun r1 =>
popN q5 <|
some (r0, r1)
theorem print_Print_dec_enc (v : AV UU) (b : List (List (AV UU))) (r : ByteArray × Int) (h : print_Print_dec v b = some r) : v = print_Print_enc r := by
  unfold print_Print_dec at h
  replace h := asT_inv h; obtain ⟨q1, rfl, h⟩ := h
  replace h := popA_inv h; obtain ⟨p2, q3, rfl, h⟩ := h
  replace h := asS_inv h; obtain ⟨r0, e, h⟩ := h; cases e
  replace h := popA_inv h; obtain ⟨p4, q5, rfl, h⟩ := h
  replace h := asI_inv h; obtain ⟨r1, e, h⟩ := h; cases e
  replace h := popN_inv h; obtain ⟨rfl, h⟩ := h
  cases h
  rfl
theorem print_Print_eq (k : Nat) (s0 : S60) : bodyK UX (print_Print_cfg k) (print_Print_G k) Tryd.f20 [.pv (.typ (.s60 s0))] [] print_Print_dec = print_Print k s0 := by kernel_rfl
theorem print_Print_con (k : Nat) (s0 : S60) (r : ByteArray × Int) (h : print_Print k s0 = some r) : Con (X := UX) Tryd.prog 20 [.pv (.typ (.s60 s0))] [] (print_Print_enc r) [] :=
  con_of_body xok tok Tryd.func20 print_Print_body (print_Print_gok k) rfl (print_Print_cok k) (of_decide_eq_true (by kernel_rfl)) print_Print_dec_enc ((print_Print_eq k s0).trans h)
noncomputable def print_Print_an {ρ : Type} (k : Nat) : An UX ρ := fun args bx K =>
popA args fun v1 a2 =>
as_s60 v1 fun s0 =>
popN a2 <|
popN bx <|
(print_Print k s0).bind fun r => K (print_Print_enc r) []
theorem print_Print_ok {ρ : Type} (k : Nat) : AnsOK Tryd.prog 20 (print_Print_an (ρ := ρ) k) := by
  intro args bx K r h
  unfold print_Print_an at h
  replace h := popA_inv h; obtain ⟨v1, a2, rfl, h⟩ := h
  replace h := as_s60_inv h; obtain ⟨s0, rfl, h⟩ := h
  replace h := popN_inv h; obtain ⟨rfl, h⟩ := h
  replace h := popN_inv h; obtain ⟨rfl, h⟩ := h
  replace h := bind_inv h
  obtain ⟨x, hx, h⟩ := h
  exact ⟨there_of Tryd.func20 (by kernel_rfl) print_Print_body, _, _, h, print_Print_con k s0 x hx⟩

/-! cadastre/cadastrelaw21.wakes -/
noncomputable def cadastrelaw21_wakes_code : Code := match Tryd.f9.body with | some c => c | none => .skip
theorem cadastrelaw21_wakes_body : Tryd.f9.body = some cadastrelaw21_wakes_code := by kernel_rfl
noncomputable def cadastrelaw21_wakes_G {ρ : Type} (k : Nat) : Ans UX ρ := gk 20 (print_Print_an k) (gk 8 (cadastrelaw21_num_an k) (gnil))
theorem cadastrelaw21_wakes_gok {ρ : Type} (k : Nat) : GOK Tryd.prog (cadastrelaw21_wakes_G (ρ := ρ) k) := gok_cons (print_Print_ok k) (gok_cons (cadastrelaw21_num_ok k) (gok_nil))
noncomputable def cadastrelaw21_wakes_cfg {ρ : Type} (k : Nat) : Cfg UX ρ where
  live i := (assoc [(0, []), (1, []), (2, [1, 2])] i).getD []
  boxes i := (assoc [(0, []), (1, []), (2, [])] i).getD []
  tk i := (assoc [] i).getD []
  n := 16
  labelR l := (assoc [] l).getD 0
  loops := assoc []
  labels := assoc []
  joins := assoc []
  xl i e := match e with
    | .nxt => assoc [] i
    | .ret => assoc [] i
    | .exit j => (assoc [] i).bind fun l => assoc l j
    | .goto j => (assoc [] i).bind fun l => assoc l j
noncomputable def cadastrelaw21_wakes_L : List Code := selI [] (loopsOf cadastrelaw21_wakes_code)
noncomputable def cadastrelaw21_wakes_J : List Code := selI [] (joinsOf cadastrelaw21_wakes_code)
noncomputable def cadastrelaw21_wakes_S : List Code := scopesOf cadastrelaw21_wakes_code
theorem cadastrelaw21_wakes_cok {ρ : Type} (k : Nat) : COK (cadastrelaw21_wakes_cfg (ρ := ρ) k) (cadastrelaw21_wakes_G k) cadastrelaw21_wakes_code :=
  cok_of (tl := []) (tj := []) (tb := []) rfl rfl rfl (nil_all (by kernel_rfl)) (nil_all (by kernel_rfl)) (fun p hp => by cases hp)
noncomputable def cadastrelaw21_wakes_enc (r : Bool) : AV UU := .pv (.bool r)
noncomputable def cadastrelaw21_wakes_dec (v : AV UU) (_ : List (List (AV UU))) : Option Bool :=
asB v fun r0 =>
some r0
theorem cadastrelaw21_wakes_dec_enc (v : AV UU) (b : List (List (AV UU))) (r : Bool) (h : cadastrelaw21_wakes_dec v b = some r) : v = cadastrelaw21_wakes_enc r := by
  unfold cadastrelaw21_wakes_dec at h
  replace h := asB_inv h; obtain ⟨r0, rfl, h⟩ := h
  cases h
  rfl
theorem cadastrelaw21_wakes_eq (k : Nat) : bodyK UX (cadastrelaw21_wakes_cfg k) (cadastrelaw21_wakes_G k) Tryd.f9 [] [] cadastrelaw21_wakes_dec = cadastrelaw21_wakes k := by kernel_rfl
theorem cadastrelaw21_wakes_con (k : Nat) (r : Bool) (h : cadastrelaw21_wakes k = some r) : Con (X := UX) Tryd.prog 9 [] [] (cadastrelaw21_wakes_enc r) [] :=
  con_of_body xok tok Tryd.func9 cadastrelaw21_wakes_body (cadastrelaw21_wakes_gok k) rfl (cadastrelaw21_wakes_cok k) (of_decide_eq_true (by kernel_rfl)) cadastrelaw21_wakes_dec_enc ((cadastrelaw21_wakes_eq k).trans h)
noncomputable def cadastrelaw21_wakes_an {ρ : Type} (k : Nat) : An UX ρ := fun args bx K =>
popN args <|
popN bx <|
(cadastrelaw21_wakes k).bind fun r => K (cadastrelaw21_wakes_enc r) []
theorem cadastrelaw21_wakes_ok {ρ : Type} (k : Nat) : AnsOK Tryd.prog 9 (cadastrelaw21_wakes_an (ρ := ρ) k) := by
  intro args bx K r h
  unfold cadastrelaw21_wakes_an at h
  replace h := popN_inv h; obtain ⟨rfl, h⟩ := h
  replace h := popN_inv h; obtain ⟨rfl, h⟩ := h
  replace h := bind_inv h
  obtain ⟨x, hx, h⟩ := h
  exact ⟨there_of Tryd.func9 (by kernel_rfl) cadastrelaw21_wakes_body, _, _, h, cadastrelaw21_wakes_con k x hx⟩
end Go.Proofs.YtnoeedkbadoogaaDoor.P
