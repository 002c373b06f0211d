/-
  What the program's functions answer: the printed functions' answers.
-/
import Derived.Test.YtekjibpkkgldgaaRG1
namespace Go.Proofs.Ytekjibpkkgldgaa.R
open Go Go.AX
/-! cadastre/cadastrelaw6.num -/
noncomputable def cadastrelaw6_num_code : Code := match Try.f23.body with | some c => c | none => .skip
theorem cadastrelaw6_num_body : Try.f23.body = some cadastrelaw6_num_code := by kernel_rfl
noncomputable def cadastrelaw6_num_G {ρ : Type} (k : Nat) : Ans UX ρ := gnil
theorem cadastrelaw6_num_gok {ρ : Type} (k : Nat) : GOK Try.prog (cadastrelaw6_num_G (ρ := ρ) k) := gok_nil
noncomputable def cadastrelaw6_num_cfg {ρ : Type} (k : Nat) : Cfg UX ρ where
  live i := (assoc [(0, [0]), (1, [0])] i).getD []
  boxes i := (assoc [(0, []), (1, [])] i).getD []
  tk i := (assoc [] i).getD []
  n := 4
  labelR l := (assoc [] l).getD 0
  loops := assoc []
  labels := assoc []
  joins := assoc []
  xl i e := match e with
    | .nxt => assoc [] i
    | .ret => assoc [] i
    | .exit j => (assoc [] i).bind fun l => assoc l j
    | .goto j => (assoc [] i).bind fun l => assoc l j
noncomputable def cadastrelaw6_num_L : List Code := selI [] (loopsOf cadastrelaw6_num_code)
noncomputable def cadastrelaw6_num_J : List Code := selI [] (joinsOf cadastrelaw6_num_code)
noncomputable def cadastrelaw6_num_S : List Code := scopesOf cadastrelaw6_num_code
theorem cadastrelaw6_num_cok {ρ : Type} (k : Nat) : COK (cadastrelaw6_num_cfg (ρ := ρ) k) (cadastrelaw6_num_G k) cadastrelaw6_num_code :=
  cok_of (tl := []) (tj := []) (tb := []) rfl rfl rfl (nil_all (by kernel_rfl)) (nil_all (by kernel_rfl)) (fun p hp => by cases hp)
noncomputable def cadastrelaw6_num_enc (r : Int) : AV UU := .pv (.int .i64 r)
noncomputable def cadastrelaw6_num_dec (v : AV UU) (_ : List (List (AV UU))) : Option Int :=
asI .i64 v fun r0 =>
some r0
theorem cadastrelaw6_num_dec_enc (v : AV UU) (b : List (List (AV UU))) (r : Int) (h : cadastrelaw6_num_dec v b = some r) : v = cadastrelaw6_num_enc r := by
  unfold cadastrelaw6_num_dec at h
  replace h := asI_inv h; obtain ⟨r0, rfl, h⟩ := h
  cases h
  rfl
theorem cadastrelaw6_num_eq (k : Nat) (e0 : Int) : bodyK UX (cadastrelaw6_num_cfg k) (cadastrelaw6_num_G k) Try.f23 [.pv (.int .i64 e0)] [] cadastrelaw6_num_dec = cadastrelaw6_num k e0 := by kernel_rfl
theorem cadastrelaw6_num_con (k : Nat) (e0 : Int) (r : Int) (h : cadastrelaw6_num k e0 = some r) : Con (X := UX) Try.prog 23 [.pv (.int .i64 e0)] [] (cadastrelaw6_num_enc r) [] :=
  con_of_body xok tok Try.func23 cadastrelaw6_num_body (cadastrelaw6_num_gok k) rfl (cadastrelaw6_num_cok k) (of_decide_eq_true (by kernel_rfl)) cadastrelaw6_num_dec_enc ((cadastrelaw6_num_eq k e0).trans h)
noncomputable def cadastrelaw6_num_an {ρ : Type} (k : Nat) : An UX ρ := fun args bx K =>
popA args fun v1 a2 =>
asI .i64 v1 fun e0 =>
popN a2 <|
popN bx <|
(cadastrelaw6_num k e0).bind fun r => K (cadastrelaw6_num_enc r) []
theorem cadastrelaw6_num_ok {ρ : Type} (k : Nat) : AnsOK Try.prog 23 (cadastrelaw6_num_an (ρ := ρ) k) := by
  intro args bx K r h
  unfold cadastrelaw6_num_an at h
  replace h := popA_inv h; obtain ⟨v1, a2, rfl, h⟩ := h
  replace h := asI_inv h; obtain ⟨e0, rfl, h⟩ := h
  replace h := popN_inv h; obtain ⟨rfl, h⟩ := h
  replace h := popN_inv h; obtain ⟨rfl, h⟩ := h
  replace h := bind_inv h
  obtain ⟨x, hx, h⟩ := h
  exact ⟨there_of Try.func23 (by kernel_rfl) cadastrelaw6_num_body, _, _, h, cadastrelaw6_num_con k e0 x hx⟩

/-! cadastre/cadastreref0.EqBytes -/
noncomputable def cadastreref0_EqBytes_code : Code := match Try.f24.body with | some c => c | none => .skip
theorem cadastreref0_EqBytes_body : Try.f24.body = some cadastreref0_EqBytes_code := by kernel_rfl
noncomputable def cadastreref0_EqBytes_G {ρ : Type} (k : Nat) : Ans UX ρ := gnil
theorem cadastreref0_EqBytes_gok {ρ : Type} (k : Nat) : GOK Try.prog (cadastreref0_EqBytes_G (ρ := ρ) k) := gok_nil
noncomputable def cadastreref0_EqBytes_l4_s {ρ : Type} (k : Nat) : Run UX ρ := fun s K =>
popS 0 s.env fun v1 e2 =>
as_li_u8 v1 fun a0 =>
popS 1 e2 fun v3 e4 =>
as_li_u8 v3 fun b1 =>
popS 5 e4 fun v5 e6 =>
asI .i64 v5 fun i5 =>
popN e6 <|
popN s.hp <|
cadastreref0_EqBytes_l4 k (fun t4 => K .ret ⟨[(4, .pv (.bool t4))], []⟩) (K (.exit 0) ⟨[], []⟩) k a0 b1 i5
noncomputable def cadastreref0_EqBytes_cfg {ρ : Type} (k : Nat) : Cfg UX ρ where
  live i := (assoc [(0, [0, 1]), (1, [0, 1]), (2, []), (3, [0, 1]), (4, [0, 1, 5]), (5, [0, 1, 5]), (6, [0, 1, 5]), (7, []), (8, [])] i).getD []
  boxes i := (assoc [(0, []), (1, []), (2, []), (3, []), (4, []), (5, []), (6, []), (7, []), (8, [])] i).getD []
  tk i := (assoc [] i).getD []
  n := 26
  labelR l := (assoc [] l).getD 0
  loops := assoc [(4, cadastreref0_EqBytes_l4_s k)]
  labels := assoc []
  joins := assoc []
  xl i e := match e with
    | .nxt => assoc [] i
    | .ret => assoc [(4, ([4], []))] i
    | .exit j => (assoc [(4, [(0, ([], []))])] i).bind fun l => assoc l j
    | .goto j => (assoc [] i).bind fun l => assoc l j
noncomputable def cadastreref0_EqBytes_L : List Code := selI [4] (loopsOf cadastreref0_EqBytes_code)
noncomputable def cadastreref0_EqBytes_J : List Code := selI [] (joinsOf cadastreref0_EqBytes_code)
noncomputable def cadastreref0_EqBytes_S : List Code := scopesOf cadastreref0_EqBytes_code
theorem cadastreref0_EqBytes_l4_eq0 {ρ : Type} (k : Nat) (K : Ex → St UU → Option ρ) : ∀ (n : Nat) (v : (List Int) × (List Int) × Int), iterK UX (fun s => s.at (cadastreref0_EqBytes_cfg (ρ := ρ) k).live (cadastreref0_EqBytes_cfg (ρ := ρ) k).boxes (some 4)) (exec UX (cadastreref0_EqBytes_cfg k) (cadastreref0_EqBytes_G k) (cadastreref0_EqBytes_L.getD 0 .skip)) n ⟨[(0, .pv (.typ (.li_u8 v.1))), (1, .pv (.typ (.li_u8 v.2.1))), (5, .pv (.int .i64 v.2.2))], []⟩ (nrmK UX (cadastreref0_EqBytes_cfg k) 4 K) = cadastreref0_EqBytes_l4 k (fun t4 => K .ret ⟨[(4, .pv (.bool t4))], []⟩) (K (.exit 0) ⟨[], []⟩) n v.1 v.2.1 v.2.2 :=
  iter_rec (X := UX) (fun v => ⟨[(0, .pv (.typ (.li_u8 v.1))), (1, .pv (.typ (.li_u8 v.2.1))), (5, .pv (.int .i64 v.2.2))], []⟩) (fun rec v => cadastreref0_EqBytes_l4_b k (fun t4 => K .ret ⟨[(4, .pv (.bool t4))], []⟩) (K (.exit 0) ⟨[], []⟩) (fun a0 b1 i5 => rec (a0, b1, i5)) v.1 v.2.1 v.2.2) (fun n v => cadastreref0_EqBytes_l4 k (fun t4 => K .ret ⟨[(4, .pv (.bool t4))], []⟩) (K (.exit 0) ⟨[], []⟩) n v.1 v.2.1 v.2.2) (fun n v => by kernel_rfl) (fun _ => rfl) (fun _ _ => rfl)
theorem cadastreref0_EqBytes_l4_ok0 {ρ : Type} (k : Nat) : IterOK UX (cadastreref0_EqBytes_cfg (ρ := ρ) k) (cadastreref0_EqBytes_G k) (cadastreref0_EqBytes_L.getD 0 .skip) 4 (cadastreref0_EqBytes_l4_s k) := by
  intro s K r h
  obtain ⟨env, hp⟩ := s
  unfold cadastreref0_EqBytes_l4_s at h
  replace h := popS_inv h; obtain ⟨v1, e2, rfl, h⟩ := h
  replace h := as_li_u8_inv h; obtain ⟨a0, rfl, h⟩ := h
  replace h := popS_inv h; obtain ⟨v3, e4, rfl, h⟩ := h
  replace h := as_li_u8_inv h; obtain ⟨b1, rfl, h⟩ := h
  replace h := popS_inv h; obtain ⟨v5, e6, rfl, h⟩ := h
  replace h := asI_inv h; obtain ⟨i5, rfl, h⟩ := h
  replace h := popN_inv h; obtain ⟨rfl, h⟩ := h
  replace h := popN_inv h; obtain ⟨rfl, h⟩ := h
  exact ⟨k, (cadastreref0_EqBytes_l4_eq0 k K k (a0, b1, i5)).trans h⟩
theorem cadastreref0_EqBytes_cok {ρ : Type} (k : Nat) : COK (cadastreref0_EqBytes_cfg (ρ := ρ) k) (cadastreref0_EqBytes_G k) cadastreref0_EqBytes_code :=
  cok_of (tl := [(4, cadastreref0_EqBytes_l4_s k)]) (tj := []) (tb := []) rfl rfl rfl (all_nth 1 (by kernel_rfl) ⟨iter_case (by kernel_rfl) rfl (cadastreref0_EqBytes_l4_ok0 k), trivial⟩) (nil_all (by kernel_rfl)) (fun p hp => by cases hp)
noncomputable def cadastreref0_EqBytes_enc (r : Bool) : AV UU := .pv (.bool r)
noncomputable def cadastreref0_EqBytes_dec (v : AV UU) (_ : List (List (AV UU))) : Option Bool :=
asB v fun r0 =>
some r0
theorem cadastreref0_EqBytes_dec_enc (v : AV UU) (b : List (List (AV UU))) (r : Bool) (h : cadastreref0_EqBytes_dec v b = some r) : v = cadastreref0_EqBytes_enc r := by
  unfold cadastreref0_EqBytes_dec at h
  replace h := asB_inv h; obtain ⟨r0, rfl, h⟩ := h
  cases h
  rfl
theorem cadastreref0_EqBytes_eq (k : Nat) (a0 : List Int) (b1 : List Int) : bodyK UX (cadastreref0_EqBytes_cfg k) (cadastreref0_EqBytes_G k) Try.f24 [.pv (.typ (.li_u8 a0)), .pv (.typ (.li_u8 b1))] [] cadastreref0_EqBytes_dec = cadastreref0_EqBytes k a0 b1 := by kernel_rfl
theorem cadastreref0_EqBytes_con (k : Nat) (a0 : List Int) (b1 : List Int) (r : Bool) (h : cadastreref0_EqBytes k a0 b1 = some r) : Con (X := UX) Try.prog 24 [.pv (.typ (.li_u8 a0)), .pv (.typ (.li_u8 b1))] [] (cadastreref0_EqBytes_enc r) [] :=
  con_of_body xok tok Try.func24 cadastreref0_EqBytes_body (cadastreref0_EqBytes_gok k) rfl (cadastreref0_EqBytes_cok k) (of_decide_eq_true (by kernel_rfl)) cadastreref0_EqBytes_dec_enc ((cadastreref0_EqBytes_eq k a0 b1).trans h)
noncomputable def cadastreref0_EqBytes_an {ρ : Type} (k : Nat) : An UX ρ := fun args bx K =>
popA args fun v1 a2 =>
as_li_u8 v1 fun a0 =>
popA a2 fun v3 a4 =>
as_li_u8 v3 fun b1 =>
popN a4 <|
popN bx <|
(cadastreref0_EqBytes k a0 b1).bind fun r => K (cadastreref0_EqBytes_enc r) []
theorem cadastreref0_EqBytes_ok {ρ : Type} (k : Nat) : AnsOK Try.prog 24 (cadastreref0_EqBytes_an (ρ := ρ) k) := by
  intro args bx K r h
  unfold cadastreref0_EqBytes_an at h
  replace h := popA_inv h; obtain ⟨v1, a2, rfl, h⟩ := h
  replace h := as_li_u8_inv h; obtain ⟨a0, rfl, h⟩ := h
  replace h := popA_inv h; obtain ⟨v3, a4, rfl, h⟩ := h
  replace h := as_li_u8_inv h; obtain ⟨b1, rfl, h⟩ := h
  replace h := popN_inv h; obtain ⟨rfl, h⟩ := h
  replace h := popN_inv h; obtain ⟨rfl, h⟩ := h
  replace h := bind_inv h
  obtain ⟨x, hx, h⟩ := h
  exact ⟨there_of Try.func24 (by kernel_rfl) cadastreref0_EqBytes_body, _, _, h, cadastreref0_EqBytes_con k a0 b1 x hx⟩

/-! cadastre/cadastrelaw6.wakes -/
noncomputable def cadastrelaw6_wakes_code : Code := match Try.f25.body with | some c => c | none => .skip
theorem cadastrelaw6_wakes_body : Try.f25.body = some cadastrelaw6_wakes_code := by kernel_rfl
noncomputable def cadastrelaw6_wakes_G {ρ : Type} (k : Nat) : Ans UX ρ := gk 21 (record_Encode_an k) (gk 23 (cadastrelaw6_num_an k) (gk 24 (cadastreref0_EqBytes_an k) (gnil)))
theorem cadastrelaw6_wakes_gok {ρ : Type} (k : Nat) : GOK Try.prog (cadastrelaw6_wakes_G (ρ := ρ) k) := gok_cons (record_Encode_ok k) (gok_cons (cadastrelaw6_num_ok k) (gok_cons (cadastreref0_EqBytes_ok k) (gok_nil)))
noncomputable def cadastrelaw6_wakes_cfg {ρ : Type} (k : Nat) : Cfg UX ρ where
  live i := (assoc [(0, []), (1, []), (2, [1, 2])] i).getD []
  boxes i := (assoc [(0, []), (1, []), (2, [])] i).getD []
  tk i := (assoc [] i).getD []
  n := 19
  labelR l := (assoc [] l).getD 0
  loops := assoc []
  labels := assoc []
  joins := assoc []
  xl i e := match e with
    | .nxt => assoc [] i
    | .ret => assoc [] i
    | .exit j => (assoc [] i).bind fun l => assoc l j
    | .goto j => (assoc [] i).bind fun l => assoc l j
noncomputable def cadastrelaw6_wakes_L : List Code := selI [] (loopsOf cadastrelaw6_wakes_code)
noncomputable def cadastrelaw6_wakes_J : List Code := selI [] (joinsOf cadastrelaw6_wakes_code)
noncomputable def cadastrelaw6_wakes_S : List Code := scopesOf cadastrelaw6_wakes_code
theorem cadastrelaw6_wakes_cok {ρ : Type} (k : Nat) : COK (cadastrelaw6_wakes_cfg (ρ := ρ) k) (cadastrelaw6_wakes_G k) cadastrelaw6_wakes_code :=
  cok_of (tl := []) (tj := []) (tb := []) rfl rfl rfl (nil_all (by kernel_rfl)) (nil_all (by kernel_rfl)) (fun p hp => by cases hp)
noncomputable def cadastrelaw6_wakes_enc (r : Bool) : AV UU := .pv (.bool r)
noncomputable def cadastrelaw6_wakes_dec (v : AV UU) (_ : List (List (AV UU))) : Option Bool :=
asB v fun r0 =>
some r0
theorem cadastrelaw6_wakes_dec_enc (v : AV UU) (b : List (List (AV UU))) (r : Bool) (h : cadastrelaw6_wakes_dec v b = some r) : v = cadastrelaw6_wakes_enc r := by
  unfold cadastrelaw6_wakes_dec at h
  replace h := asB_inv h; obtain ⟨r0, rfl, h⟩ := h
  cases h
  rfl
theorem cadastrelaw6_wakes_eq (k : Nat) : bodyK UX (cadastrelaw6_wakes_cfg k) (cadastrelaw6_wakes_G k) Try.f25 [] [] cadastrelaw6_wakes_dec = cadastrelaw6_wakes k := by kernel_rfl
theorem cadastrelaw6_wakes_con (k : Nat) (r : Bool) (h : cadastrelaw6_wakes k = some r) : Con (X := UX) Try.prog 25 [] [] (cadastrelaw6_wakes_enc r) [] :=
  con_of_body xok tok Try.func25 cadastrelaw6_wakes_body (cadastrelaw6_wakes_gok k) rfl (cadastrelaw6_wakes_cok k) (of_decide_eq_true (by kernel_rfl)) cadastrelaw6_wakes_dec_enc ((cadastrelaw6_wakes_eq k).trans h)
noncomputable def cadastrelaw6_wakes_an {ρ : Type} (k : Nat) : An UX ρ := fun args bx K =>
popN args <|
popN bx <|
(cadastrelaw6_wakes k).bind fun r => K (cadastrelaw6_wakes_enc r) []
theorem cadastrelaw6_wakes_ok {ρ : Type} (k : Nat) : AnsOK Try.prog 25 (cadastrelaw6_wakes_an (ρ := ρ) k) := by
  intro args bx K r h
  unfold cadastrelaw6_wakes_an at h
  replace h := popN_inv h; obtain ⟨rfl, h⟩ := h
  replace h := popN_inv h; obtain ⟨rfl, h⟩ := h
  replace h := bind_inv h
  obtain ⟨x, hx, h⟩ := h
  exact ⟨there_of Try.func25 (by kernel_rfl) cadastrelaw6_wakes_body, _, _, h, cadastrelaw6_wakes_con k x hx⟩

/-! cadastre/cadastrelaw6.RecordEncodes -/
noncomputable def cadastrelaw6_RecordEncodes_code : Code := match Try.f4.body with | some c => c | none => .skip
theorem cadastrelaw6_RecordEncodes_body : Try.f4.body = some cadastrelaw6_RecordEncodes_code := by kernel_rfl
noncomputable def cadastrelaw6_RecordEncodes_G {ρ : Type} (k : Nat) : Ans UX ρ := gk 20 (cadastrelaw6_heavy_an k) (gk 21 (record_Encode_an k) (gk 22 (cadastreref6_Encode_an k) (gk 23 (cadastrelaw6_num_an k) (gk 24 (cadastreref0_EqBytes_an k) (gk 25 (cadastrelaw6_wakes_an k) (gnil))))))
theorem cadastrelaw6_RecordEncodes_gok {ρ : Type} (k : Nat) : GOK Try.prog (cadastrelaw6_RecordEncodes_G (ρ := ρ) k) := gok_cons (cadastrelaw6_heavy_ok k) (gok_cons (record_Encode_ok k) (gok_cons (cadastreref6_Encode_ok k) (gok_cons (cadastrelaw6_num_ok k) (gok_cons (cadastreref0_EqBytes_ok k) (gok_cons (cadastrelaw6_wakes_ok k) (gok_nil))))))
noncomputable def cadastrelaw6_RecordEncodes_j4_s {ρ : Type} (k : Nat) : Run UX ρ := fun s K =>
popS 0 s.env fun v1 e2 =>
as_l34 v1 fun l0 =>
popS 3 e2 fun v3 e4 =>
asI .i64 v3 fun i3 =>
popN e4 <|
popN s.hp <|
cadastrelaw6_RecordEncodes_j4 k (fun t2 => K .ret ⟨[(2, .pv (.bool t2))], []⟩) (fun l0 i3 => K .nxt ⟨[(0, .pv (.typ (.l34 l0))), (3, .pv (.int .i64 i3))], []⟩) l0 i3
noncomputable def cadastrelaw6_RecordEncodes_l2_s {ρ : Type} (k : Nat) : Run UX ρ := fun s K =>
popS 0 s.env fun v1 e2 =>
as_l34 v1 fun l0 =>
popS 3 e2 fun v3 e4 =>
asI .i64 v3 fun i3 =>
popN e4 <|
popN s.hp <|
cadastrelaw6_RecordEncodes_l2 k (fun t2 => K .ret ⟨[(2, .pv (.bool t2))], []⟩) (K (.exit 0) ⟨[], []⟩) k l0 i3
noncomputable def cadastrelaw6_RecordEncodes_cfg {ρ : Type} (k : Nat) : Cfg UX ρ where
  live i := (assoc [(0, [0]), (1, [0]), (2, [0, 3]), (3, [0, 3]), (4, [0, 3]), (5, []), (6, [0, 3]), (7, [0, 3, 4, 5]), (8, [0, 3, 4, 5, 6, 7]), (9, []), (10, [])] i).getD []
  boxes i := (assoc [(0, []), (1, []), (2, []), (3, []), (4, []), (5, []), (6, []), (7, []), (8, []), (9, []), (10, [])] i).getD []
  tk i := (assoc [] i).getD []
  n := 52
  labelR l := (assoc [] l).getD 0
  loops := assoc [(2, cadastrelaw6_RecordEncodes_l2_s k)]
  labels := assoc []
  joins := assoc [(4, cadastrelaw6_RecordEncodes_j4_s k)]
  xl i e := match e with
    | .nxt => assoc [(4, ([0, 3], []))] i
    | .ret => assoc [(4, ([2], [])), (2, ([2], []))] i
    | .exit j => (assoc [(2, [(0, ([], []))])] i).bind fun l => assoc l j
    | .goto j => (assoc [] i).bind fun l => assoc l j
noncomputable def cadastrelaw6_RecordEncodes_L : List Code := selI [2] (loopsOf cadastrelaw6_RecordEncodes_code)
noncomputable def cadastrelaw6_RecordEncodes_J : List Code := selI [4] (joinsOf cadastrelaw6_RecordEncodes_code)
noncomputable def cadastrelaw6_RecordEncodes_S : List Code := scopesOf cadastrelaw6_RecordEncodes_code
theorem cadastrelaw6_RecordEncodes_l2_eq0 {ρ : Type} (k : Nat) (K : Ex → St UU → Option ρ) : ∀ (n : Nat) (v : (List S34) × Int), iterK UX (fun s => s.at (cadastrelaw6_RecordEncodes_cfg (ρ := ρ) k).live (cadastrelaw6_RecordEncodes_cfg (ρ := ρ) k).boxes (some 2)) (exec UX (cadastrelaw6_RecordEncodes_cfg k) (cadastrelaw6_RecordEncodes_G k) (cadastrelaw6_RecordEncodes_L.getD 0 .skip)) n ⟨[(0, .pv (.typ (.l34 v.1))), (3, .pv (.int .i64 v.2))], []⟩ (nrmK UX (cadastrelaw6_RecordEncodes_cfg k) 2 K) = cadastrelaw6_RecordEncodes_l2 k (fun t2 => K .ret ⟨[(2, .pv (.bool t2))], []⟩) (K (.exit 0) ⟨[], []⟩) n v.1 v.2 :=
  iter_rec (X := UX) (fun v => ⟨[(0, .pv (.typ (.l34 v.1))), (3, .pv (.int .i64 v.2))], []⟩) (fun rec v => cadastrelaw6_RecordEncodes_l2_b k (fun t2 => K .ret ⟨[(2, .pv (.bool t2))], []⟩) (K (.exit 0) ⟨[], []⟩) (fun l0 i3 => rec (l0, i3)) v.1 v.2) (fun n v => cadastrelaw6_RecordEncodes_l2 k (fun t2 => K .ret ⟨[(2, .pv (.bool t2))], []⟩) (K (.exit 0) ⟨[], []⟩) n v.1 v.2) (fun n v => by kernel_rfl) (fun _ => rfl) (fun _ _ => rfl)
theorem cadastrelaw6_RecordEncodes_l2_ok0 {ρ : Type} (k : Nat) : IterOK UX (cadastrelaw6_RecordEncodes_cfg (ρ := ρ) k) (cadastrelaw6_RecordEncodes_G k) (cadastrelaw6_RecordEncodes_L.getD 0 .skip) 2 (cadastrelaw6_RecordEncodes_l2_s k) := by
  intro s K r h
  obtain ⟨env, hp⟩ := s
  unfold cadastrelaw6_RecordEncodes_l2_s at h
  replace h := popS_inv h; obtain ⟨v1, e2, rfl, h⟩ := h
  replace h := as_l34_inv h; obtain ⟨l0, rfl, h⟩ := h
  replace h := popS_inv h; obtain ⟨v3, e4, rfl, h⟩ := h
  replace h := asI_inv h; obtain ⟨i3, rfl, h⟩ := h
  replace h := popN_inv h; obtain ⟨rfl, h⟩ := h
  replace h := popN_inv h; obtain ⟨rfl, h⟩ := h
  exact ⟨k, (cadastrelaw6_RecordEncodes_l2_eq0 k K k (l0, i3)).trans h⟩
theorem cadastrelaw6_RecordEncodes_j4_eq0 {ρ : Type} (k : Nat) (K : Ex → St UU → Option ρ) (l0 : List S34) (i3 : Int) : exec UX (cadastrelaw6_RecordEncodes_cfg k) (cadastrelaw6_RecordEncodes_G k) (cadastrelaw6_RecordEncodes_J.getD 0 .skip) ⟨[(0, .pv (.typ (.l34 l0))), (3, .pv (.int .i64 i3))], []⟩ (nrmK UX (cadastrelaw6_RecordEncodes_cfg k) 4 K) = cadastrelaw6_RecordEncodes_j4 k (fun t2 => K .ret ⟨[(2, .pv (.bool t2))], []⟩) (fun l0 i3 => K .nxt ⟨[(0, .pv (.typ (.l34 l0))), (3, .pv (.int .i64 i3))], []⟩) l0 i3 := by kernel_rfl
theorem cadastrelaw6_RecordEncodes_j4_ok0 {ρ : Type} (k : Nat) : JoinOK UX (cadastrelaw6_RecordEncodes_cfg (ρ := ρ) k) (cadastrelaw6_RecordEncodes_G k) (cadastrelaw6_RecordEncodes_J.getD 0 .skip) 4 (cadastrelaw6_RecordEncodes_j4_s k) := by
  intro s K r h
  obtain ⟨env, hp⟩ := s
  unfold cadastrelaw6_RecordEncodes_j4_s at h
  replace h := popS_inv h; obtain ⟨v1, e2, rfl, h⟩ := h
  replace h := as_l34_inv h; obtain ⟨l0, rfl, h⟩ := h
  replace h := popS_inv h; obtain ⟨v3, e4, rfl, h⟩ := h
  replace h := asI_inv h; obtain ⟨i3, rfl, h⟩ := h
  replace h := popN_inv h; obtain ⟨rfl, h⟩ := h
  replace h := popN_inv h; obtain ⟨rfl, h⟩ := h
  exact (cadastrelaw6_RecordEncodes_j4_eq0 k K l0 i3).trans h
theorem cadastrelaw6_RecordEncodes_cok {ρ : Type} (k : Nat) : COK (cadastrelaw6_RecordEncodes_cfg (ρ := ρ) k) (cadastrelaw6_RecordEncodes_G k) cadastrelaw6_RecordEncodes_code :=
  cok_of (tl := [(2, cadastrelaw6_RecordEncodes_l2_s k)]) (tj := [(4, cadastrelaw6_RecordEncodes_j4_s k)]) (tb := []) rfl rfl rfl (all_nth 1 (by kernel_rfl) ⟨iter_case (by kernel_rfl) rfl (cadastrelaw6_RecordEncodes_l2_ok0 k), trivial⟩) (all_nth 1 (by kernel_rfl) ⟨join_case (by kernel_rfl) rfl (cadastrelaw6_RecordEncodes_j4_ok0 k), trivial⟩) (fun p hp => by cases hp)
noncomputable def cadastrelaw6_RecordEncodes_enc (r : Bool) : AV UU := .pv (.bool r)
noncomputable def cadastrelaw6_RecordEncodes_dec (v : AV UU) (_ : List (List (AV UU))) : Option Bool :=
asB v fun r0 =>
some r0
theorem cadastrelaw6_RecordEncodes_dec_enc (v : AV UU) (b : List (List (AV UU))) (r : Bool) (h : cadastrelaw6_RecordEncodes_dec v b = some r) : v = cadastrelaw6_RecordEncodes_enc r := by
  unfold cadastrelaw6_RecordEncodes_dec at h
  replace h := asB_inv h; obtain ⟨r0, rfl, h⟩ := h
  cases h
  rfl
theorem cadastrelaw6_RecordEncodes_eq (k : Nat) (l0 : List S34) : bodyK UX (cadastrelaw6_RecordEncodes_cfg k) (cadastrelaw6_RecordEncodes_G k) Try.f4 [.pv (.typ (.l34 l0))] [] cadastrelaw6_RecordEncodes_dec = cadastrelaw6_RecordEncodes k l0 := by kernel_rfl
theorem cadastrelaw6_RecordEncodes_con (k : Nat) (l0 : List S34) (r : Bool) (h : cadastrelaw6_RecordEncodes k l0 = some r) : Con (X := UX) Try.prog 4 [.pv (.typ (.l34 l0))] [] (cadastrelaw6_RecordEncodes_enc r) [] :=
  con_of_body xok tok Try.func4 cadastrelaw6_RecordEncodes_body (cadastrelaw6_RecordEncodes_gok k) rfl (cadastrelaw6_RecordEncodes_cok k) (of_decide_eq_true (by kernel_rfl)) cadastrelaw6_RecordEncodes_dec_enc ((cadastrelaw6_RecordEncodes_eq k l0).trans h)
noncomputable def cadastrelaw6_RecordEncodes_an {ρ : Type} (k : Nat) : An UX ρ := fun args bx K =>
popA args fun v1 a2 =>
as_l34 v1 fun l0 =>
popN a2 <|
popN bx <|
(cadastrelaw6_RecordEncodes k l0).bind fun r => K (cadastrelaw6_RecordEncodes_enc r) []
theorem cadastrelaw6_RecordEncodes_ok {ρ : Type} (k : Nat) : AnsOK Try.prog 4 (cadastrelaw6_RecordEncodes_an (ρ := ρ) k) := by
  intro args bx K r h
  unfold cadastrelaw6_RecordEncodes_an at h
  replace h := popA_inv h; obtain ⟨v1, a2, rfl, h⟩ := h
  replace h := as_l34_inv h; obtain ⟨l0, rfl, h⟩ := h
  replace h := popN_inv h; obtain ⟨rfl, h⟩ := h
  replace h := popN_inv h; obtain ⟨rfl, h⟩ := h
  replace h := bind_inv h
  obtain ⟨x, hx, h⟩ := h
  exact ⟨there_of Try.func4 (by kernel_rfl) cadastrelaw6_RecordEncodes_body, _, _, h, cadastrelaw6_RecordEncodes_con k l0 x hx⟩

/-! cadastre/cadastrelaw6.RecordSizes -/
noncomputable def cadastrelaw6_RecordSizes_code : Code := match Try.f5.body with | some c => c | none => .skip
theorem cadastrelaw6_RecordSizes_body : Try.f5.body = some cadastrelaw6_RecordSizes_code := by kernel_rfl
noncomputable def cadastrelaw6_RecordSizes_G {ρ : Type} (k : Nat) : Ans UX ρ := gk 26 (cadastreref2_May_an k) (gk 21 (record_Encode_an k) (gk 23 (cadastrelaw6_num_an k) (gk 25 (cadastrelaw6_wakes_an k) (gnil))))
theorem cadastrelaw6_RecordSizes_gok {ρ : Type} (k : Nat) : GOK Try.prog (cadastrelaw6_RecordSizes_G (ρ := ρ) k) := gok_cons (cadastreref2_May_ok k) (gok_cons (record_Encode_ok k) (gok_cons (cadastrelaw6_num_ok k) (gok_cons (cadastrelaw6_wakes_ok k) (gok_nil))))
noncomputable def cadastrelaw6_RecordSizes_l14_s {ρ : Type} (k : Nat) : Run UX ρ := fun s K =>
popS 0 s.env fun v1 e2 =>
as_l34 v1 fun l0 =>
popS 3 e2 fun v3 e4 =>
asI .i64 v3 fun i3 =>
popS 4 e4 fun v5 e6 =>
asI .i64 v5 fun k4 =>
popS 5 e6 fun v7 e8 =>
asP 5 0 v7 <|
popS 6 e8 fun v9 e10 =>
as_li_u8 v9 fun b6 =>
popS 7 e10 fun v11 e12 =>
asI .i64 v11 fun e7 =>
popS 8 e12 fun v13 e14 =>
asI .i64 v13 fun n8 =>
popS 9 e14 fun v15 e16 =>
asI .i64 v15 fun m9 =>
popN e16 <|
popB 5 s.hp fun c17 e18 =>
popA c17 fun v19 c20 =>
asI .i64 v19 fun z21 =>
popA c20 fun v22 c23 =>
asI .i64 v22 fun z24 =>
popA c23 fun v25 c26 =>
asS v25 fun z27 =>
popN c26 <|
popN e18 <|
cadastrelaw6_RecordSizes_l14 k (fun l0 i3 k4 b6 e7 n8 v5 => K (.exit 4) ⟨[(0, .pv (.typ (.l34 l0))), (3, .pv (.int .i64 i3)), (4, .pv (.int .i64 k4)), (5, .ptr 5 0), (6, .pv (.typ (.li_u8 b6))), (7, .pv (.int .i64 e7)), (8, .pv (.int .i64 n8))], [(5, [.pv (.int .i64 v5.f0), .pv (.int .i64 v5.f1), .pv (.str v5.f2)])]⟩) k l0 i3 k4 b6 e7 n8 m9 (⟨z21, z24, z27⟩ : S44)
noncomputable def cadastrelaw6_RecordSizes_j12_s {ρ : Type} (k : Nat) : Run UX ρ := fun s K =>
popS 0 s.env fun v1 e2 =>
as_l34 v1 fun l0 =>
popS 3 e2 fun v3 e4 =>
asI .i64 v3 fun i3 =>
popS 4 e4 fun v5 e6 =>
asI .i64 v5 fun k4 =>
popS 5 e6 fun v7 e8 =>
asP 5 0 v7 <|
popS 6 e8 fun v9 e10 =>
as_li_u8 v9 fun b6 =>
popS 7 e10 fun v11 e12 =>
asI .i64 v11 fun e7 =>
popN e12 <|
popB 5 s.hp fun c13 e14 =>
popA c13 fun v15 c16 =>
asI .i64 v15 fun z17 =>
popA c16 fun v18 c19 =>
asI .i64 v18 fun z20 =>
popA c19 fun v21 c22 =>
asS v21 fun z23 =>
popN c22 <|
popN e14 <|
cadastrelaw6_RecordSizes_j12 k (fun l0 i3 k4 b6 e7 n8 v5 => K .nxt ⟨[(0, .pv (.typ (.l34 l0))), (3, .pv (.int .i64 i3)), (4, .pv (.int .i64 k4)), (5, .ptr 5 0), (6, .pv (.typ (.li_u8 b6))), (7, .pv (.int .i64 e7)), (8, .pv (.int .i64 n8))], [(5, [.pv (.int .i64 v5.f0), .pv (.int .i64 v5.f1), .pv (.str v5.f2)])]⟩) l0 i3 k4 b6 e7 (⟨z17, z20, z23⟩ : S44)
noncomputable def cadastrelaw6_RecordSizes_j21_s {ρ : Type} (k : Nat) : Run UX ρ := fun s K =>
popS 0 s.env fun v1 e2 =>
as_l34 v1 fun l0 =>
popS 3 e2 fun v3 e4 =>
asI .i64 v3 fun i3 =>
popS 4 e4 fun v5 e6 =>
asI .i64 v5 fun k4 =>
popS 6 e6 fun v7 e8 =>
as_li_u8 v7 fun b6 =>
popS 7 e8 fun v9 e10 =>
asI .i64 v9 fun e7 =>
popS 8 e10 fun v11 e12 =>
asI .i64 v11 fun n8 =>
popS 10 e12 fun v13 e14 =>
asI .i64 v13 fun head10 =>
popN e14 <|
popN s.hp <|
cadastrelaw6_RecordSizes_j21 k (fun t2 => K .ret ⟨[(2, .pv (.bool t2))], []⟩) (fun l0 i3 k4 => K .nxt ⟨[(0, .pv (.typ (.l34 l0))), (3, .pv (.int .i64 i3)), (4, .pv (.int .i64 k4))], []⟩) l0 i3 k4 b6 e7 n8 head10
noncomputable def cadastrelaw6_RecordSizes_j18_s {ρ : Type} (k : Nat) : Run UX ρ := fun s K =>
popS 0 s.env fun v1 e2 =>
as_l34 v1 fun l0 =>
popS 3 e2 fun v3 e4 =>
asI .i64 v3 fun i3 =>
popS 4 e4 fun v5 e6 =>
asI .i64 v5 fun k4 =>
popS 5 e6 fun v7 e8 =>
asP 5 0 v7 <|
popS 6 e8 fun v9 e10 =>
as_li_u8 v9 fun b6 =>
popS 7 e10 fun v11 e12 =>
asI .i64 v11 fun e7 =>
popS 8 e12 fun v13 e14 =>
asI .i64 v13 fun n8 =>
popN e14 <|
popB 5 s.hp fun c15 e16 =>
popA c15 fun v17 c18 =>
asI .i64 v17 fun z19 =>
popA c18 fun v20 c21 =>
asI .i64 v20 fun z22 =>
popA c21 fun v23 c24 =>
asS v23 fun z25 =>
popN c24 <|
popN e16 <|
cadastrelaw6_RecordSizes_j18 k (fun t2 => K .ret ⟨[(2, .pv (.bool t2))], []⟩) (fun l0 i3 k4 => K .nxt ⟨[(0, .pv (.typ (.l34 l0))), (3, .pv (.int .i64 i3)), (4, .pv (.int .i64 k4))], []⟩) l0 i3 k4 b6 e7 n8 (⟨z19, z22, z25⟩ : S44)
noncomputable def cadastrelaw6_RecordSizes_j7_s {ρ : Type} (k : Nat) : Run UX ρ := fun s K =>
popS 0 s.env fun v1 e2 =>
as_l34 v1 fun l0 =>
popS 3 e2 fun v3 e4 =>
asI .i64 v3 fun i3 =>
popS 4 e4 fun v5 e6 =>
asI .i64 v5 fun k4 =>
popN e6 <|
popN s.hp <|
cadastrelaw6_RecordSizes_j7 k (fun l0 i3 k4 => K .nxt ⟨[(0, .pv (.typ (.l34 l0))), (3, .pv (.int .i64 i3)), (4, .pv (.int .i64 k4))], []⟩) (fun t2 => K .ret ⟨[(2, .pv (.bool t2))], []⟩) l0 i3 k4
noncomputable def cadastrelaw6_RecordSizes_l5_s {ρ : Type} (k : Nat) : Run UX ρ := fun s K =>
popS 0 s.env fun v1 e2 =>
as_l34 v1 fun l0 =>
popS 3 e2 fun v3 e4 =>
asI .i64 v3 fun i3 =>
popS 4 e4 fun v5 e6 =>
asI .i64 v5 fun k4 =>
popN e6 <|
popN s.hp <|
cadastrelaw6_RecordSizes_l5 k (fun t2 => K .ret ⟨[(2, .pv (.bool t2))], []⟩) (fun l0 i3 => K (.exit 2) ⟨[(0, .pv (.typ (.l34 l0))), (3, .pv (.int .i64 i3))], []⟩) k l0 i3 k4
noncomputable def cadastrelaw6_RecordSizes_j4_s {ρ : Type} (k : Nat) : Run UX ρ := fun s K =>
popS 0 s.env fun v1 e2 =>
as_l34 v1 fun l0 =>
popS 3 e2 fun v3 e4 =>
asI .i64 v3 fun i3 =>
popN e4 <|
popN s.hp <|
cadastrelaw6_RecordSizes_j4 k (fun t2 => K .ret ⟨[(2, .pv (.bool t2))], []⟩) (fun l0 i3 => K .nxt ⟨[(0, .pv (.typ (.l34 l0))), (3, .pv (.int .i64 i3))], []⟩) l0 i3
noncomputable def cadastrelaw6_RecordSizes_l2_s {ρ : Type} (k : Nat) : Run UX ρ := fun s K =>
popS 0 s.env fun v1 e2 =>
as_l34 v1 fun l0 =>
popS 3 e2 fun v3 e4 =>
asI .i64 v3 fun i3 =>
popN e4 <|
popN s.hp <|
cadastrelaw6_RecordSizes_l2 k (fun t2 => K .ret ⟨[(2, .pv (.bool t2))], []⟩) (K (.exit 0) ⟨[], []⟩) k l0 i3
noncomputable def cadastrelaw6_RecordSizes_cfg {ρ : Type} (k : Nat) : Cfg UX ρ where
  live i := (assoc [(0, [0]), (1, [0]), (2, [0, 3]), (3, [0, 3]), (4, [0, 3]), (5, [0, 3, 4]), (6, [0, 3, 4]), (7, [0, 3, 4]), (8, [0, 3, 4, 5]), (9, [0, 3, 4, 5]), (10, [0, 3, 4, 5, 6, 7]), (11, [0, 3, 4, 5, 6, 7, 8]), (12, [0, 3, 4, 5, 6, 7]), (13, [0, 3, 4, 5, 6, 7, 8]), (14, [0, 3, 4, 5, 6, 7, 8, 9]), (15, [0, 3, 4, 5, 6, 7, 8, 9]), (16, [0, 3, 4, 5, 6, 7, 8, 9]), (17, [0, 3, 4, 5, 6, 7, 9]), (18, [0, 3, 4, 5, 6, 7, 8]), (19, [0, 3, 4, 5, 6, 7, 8, 10]), (20, [0, 3, 4, 6, 7, 8]), (21, [0, 3, 4, 6, 7, 8, 10]), (22, []), (23, [])] i).getD []
  boxes i := (assoc [(0, []), (1, []), (2, []), (3, []), (4, []), (5, []), (6, []), (7, []), (8, [5]), (9, [5]), (10, [5]), (11, [5]), (12, [5]), (13, [5]), (14, [5]), (15, [5]), (16, [5]), (17, [5]), (18, [5]), (19, [5]), (20, []), (21, []), (22, []), (23, [])] i).getD []
  tk i := (assoc [] i).getD []
  n := 105
  labelR l := (assoc [] l).getD 0
  loops := assoc [(14, cadastrelaw6_RecordSizes_l14_s k), (5, cadastrelaw6_RecordSizes_l5_s k), (2, cadastrelaw6_RecordSizes_l2_s k)]
  labels := assoc []
  joins := assoc [(12, cadastrelaw6_RecordSizes_j12_s k), (21, cadastrelaw6_RecordSizes_j21_s k), (18, cadastrelaw6_RecordSizes_j18_s k), (7, cadastrelaw6_RecordSizes_j7_s k), (4, cadastrelaw6_RecordSizes_j4_s k)]
  xl i e := match e with
    | .nxt => assoc [(12, ([0, 3, 4, 5, 6, 7, 8], [5])), (21, ([0, 3, 4], [])), (18, ([0, 3, 4], [])), (7, ([0, 3, 4], [])), (4, ([0, 3], []))] i
    | .ret => assoc [(21, ([2], [])), (18, ([2], [])), (7, ([2], [])), (5, ([2], [])), (4, ([2], [])), (2, ([2], []))] i
    | .exit j => (assoc [(14, [(4, ([0, 3, 4, 5, 6, 7, 8], [5]))]), (5, [(2, ([0, 3], []))]), (2, [(0, ([], []))])] i).bind fun l => assoc l j
    | .goto j => (assoc [] i).bind fun l => assoc l j
noncomputable def cadastrelaw6_RecordSizes_L : List Code := selI [14, 5, 2] (loopsOf cadastrelaw6_RecordSizes_code)
noncomputable def cadastrelaw6_RecordSizes_J : List Code := selI [12, 21, 18, 7, 4] (joinsOf cadastrelaw6_RecordSizes_code)
noncomputable def cadastrelaw6_RecordSizes_S : List Code := scopesOf cadastrelaw6_RecordSizes_code
theorem cadastrelaw6_RecordSizes_l2_eq0 {ρ : Type} (k : Nat) (K : Ex → St UU → Option ρ) : ∀ (n : Nat) (v : (List S34) × Int), iterK UX (fun s => s.at (cadastrelaw6_RecordSizes_cfg (ρ := ρ) k).live (cadastrelaw6_RecordSizes_cfg (ρ := ρ) k).boxes (some 2)) (exec UX (cadastrelaw6_RecordSizes_cfg k) (cadastrelaw6_RecordSizes_G k) (cadastrelaw6_RecordSizes_L.getD 0 .skip)) n ⟨[(0, .pv (.typ (.l34 v.1))), (3, .pv (.int .i64 v.2))], []⟩ (nrmK UX (cadastrelaw6_RecordSizes_cfg k) 2 K) = cadastrelaw6_RecordSizes_l2 k (fun t2 => K .ret ⟨[(2, .pv (.bool t2))], []⟩) (K (.exit 0) ⟨[], []⟩) n v.1 v.2 :=
  iter_rec (X := UX) (fun v => ⟨[(0, .pv (.typ (.l34 v.1))), (3, .pv (.int .i64 v.2))], []⟩) (fun rec v => cadastrelaw6_RecordSizes_l2_b k (fun t2 => K .ret ⟨[(2, .pv (.bool t2))], []⟩) (K (.exit 0) ⟨[], []⟩) (fun l0 i3 => rec (l0, i3)) v.1 v.2) (fun n v => cadastrelaw6_RecordSizes_l2 k (fun t2 => K .ret ⟨[(2, .pv (.bool t2))], []⟩) (K (.exit 0) ⟨[], []⟩) n v.1 v.2) (fun n v => by kernel_rfl) (fun _ => rfl) (fun _ _ => rfl)
theorem cadastrelaw6_RecordSizes_l2_ok0 {ρ : Type} (k : Nat) : IterOK UX (cadastrelaw6_RecordSizes_cfg (ρ := ρ) k) (cadastrelaw6_RecordSizes_G k) (cadastrelaw6_RecordSizes_L.getD 0 .skip) 2 (cadastrelaw6_RecordSizes_l2_s k) := by
  intro s K r h
  obtain ⟨env, hp⟩ := s
  unfold cadastrelaw6_RecordSizes_l2_s at h
  replace h := popS_inv h; obtain ⟨v1, e2, rfl, h⟩ := h
  replace h := as_l34_inv h; obtain ⟨l0, rfl, h⟩ := h
  replace h := popS_inv h; obtain ⟨v3, e4, rfl, h⟩ := h
  replace h := asI_inv h; obtain ⟨i3, rfl, h⟩ := h
  replace h := popN_inv h; obtain ⟨rfl, h⟩ := h
  replace h := popN_inv h; obtain ⟨rfl, h⟩ := h
  exact ⟨k, (cadastrelaw6_RecordSizes_l2_eq0 k K k (l0, i3)).trans h⟩
theorem cadastrelaw6_RecordSizes_l5_eq1 {ρ : Type} (k : Nat) (K : Ex → St UU → Option ρ) : ∀ (n : Nat) (v : (List S34) × Int × Int), iterK UX (fun s => s.at (cadastrelaw6_RecordSizes_cfg (ρ := ρ) k).live (cadastrelaw6_RecordSizes_cfg (ρ := ρ) k).boxes (some 5)) (exec UX (cadastrelaw6_RecordSizes_cfg k) (cadastrelaw6_RecordSizes_G k) (cadastrelaw6_RecordSizes_L.getD 1 .skip)) n ⟨[(0, .pv (.typ (.l34 v.1))), (3, .pv (.int .i64 v.2.1)), (4, .pv (.int .i64 v.2.2))], []⟩ (nrmK UX (cadastrelaw6_RecordSizes_cfg k) 5 K) = cadastrelaw6_RecordSizes_l5 k (fun t2 => K .ret ⟨[(2, .pv (.bool t2))], []⟩) (fun l0 i3 => K (.exit 2) ⟨[(0, .pv (.typ (.l34 l0))), (3, .pv (.int .i64 i3))], []⟩) n v.1 v.2.1 v.2.2 :=
  iter_rec (X := UX) (fun v => ⟨[(0, .pv (.typ (.l34 v.1))), (3, .pv (.int .i64 v.2.1)), (4, .pv (.int .i64 v.2.2))], []⟩) (fun rec v => cadastrelaw6_RecordSizes_l5_b k (fun t2 => K .ret ⟨[(2, .pv (.bool t2))], []⟩) (fun l0 i3 => K (.exit 2) ⟨[(0, .pv (.typ (.l34 l0))), (3, .pv (.int .i64 i3))], []⟩) (fun l0 i3 k4 => rec (l0, i3, k4)) v.1 v.2.1 v.2.2) (fun n v => cadastrelaw6_RecordSizes_l5 k (fun t2 => K .ret ⟨[(2, .pv (.bool t2))], []⟩) (fun l0 i3 => K (.exit 2) ⟨[(0, .pv (.typ (.l34 l0))), (3, .pv (.int .i64 i3))], []⟩) n v.1 v.2.1 v.2.2) (fun n v => by kernel_rfl) (fun _ => rfl) (fun _ _ => rfl)
theorem cadastrelaw6_RecordSizes_l5_ok1 {ρ : Type} (k : Nat) : IterOK UX (cadastrelaw6_RecordSizes_cfg (ρ := ρ) k) (cadastrelaw6_RecordSizes_G k) (cadastrelaw6_RecordSizes_L.getD 1 .skip) 5 (cadastrelaw6_RecordSizes_l5_s k) := by
  intro s K r h
  obtain ⟨env, hp⟩ := s
  unfold cadastrelaw6_RecordSizes_l5_s at h
  replace h := popS_inv h; obtain ⟨v1, e2, rfl, h⟩ := h
  replace h := as_l34_inv h; obtain ⟨l0, rfl, h⟩ := h
  replace h := popS_inv h; obtain ⟨v3, e4, rfl, h⟩ := h
  replace h := asI_inv h; obtain ⟨i3, rfl, h⟩ := h
  replace h := popS_inv h; obtain ⟨v5, e6, rfl, h⟩ := h
  replace h := asI_inv h; obtain ⟨k4, rfl, h⟩ := h
  replace h := popN_inv h; obtain ⟨rfl, h⟩ := h
  replace h := popN_inv h; obtain ⟨rfl, h⟩ := h
  exact ⟨k, (cadastrelaw6_RecordSizes_l5_eq1 k K k (l0, i3, k4)).trans h⟩
theorem cadastrelaw6_RecordSizes_l14_eq2 {ρ : Type} (k : Nat) (K : Ex → St UU → Option ρ) : ∀ (n : Nat) (v : (List S34) × Int × Int × (List Int) × Int × Int × Int × S44), iterK UX (fun s => s.at (cadastrelaw6_RecordSizes_cfg (ρ := ρ) k).live (cadastrelaw6_RecordSizes_cfg (ρ := ρ) k).boxes (some 14)) (exec UX (cadastrelaw6_RecordSizes_cfg k) (cadastrelaw6_RecordSizes_G k) (cadastrelaw6_RecordSizes_L.getD 2 .skip)) n ⟨[(0, .pv (.typ (.l34 v.1))), (3, .pv (.int .i64 v.2.1)), (4, .pv (.int .i64 v.2.2.1)), (5, .ptr 5 0), (6, .pv (.typ (.li_u8 v.2.2.2.1))), (7, .pv (.int .i64 v.2.2.2.2.1)), (8, .pv (.int .i64 v.2.2.2.2.2.1)), (9, .pv (.int .i64 v.2.2.2.2.2.2.1))], [(5, [.pv (.int .i64 v.2.2.2.2.2.2.2.f0), .pv (.int .i64 v.2.2.2.2.2.2.2.f1), .pv (.str v.2.2.2.2.2.2.2.f2)])]⟩ (nrmK UX (cadastrelaw6_RecordSizes_cfg k) 14 K) = cadastrelaw6_RecordSizes_l14 k (fun l0 i3 k4 b6 e7 n8 v5 => K (.exit 4) ⟨[(0, .pv (.typ (.l34 l0))), (3, .pv (.int .i64 i3)), (4, .pv (.int .i64 k4)), (5, .ptr 5 0), (6, .pv (.typ (.li_u8 b6))), (7, .pv (.int .i64 e7)), (8, .pv (.int .i64 n8))], [(5, [.pv (.int .i64 v5.f0), .pv (.int .i64 v5.f1), .pv (.str v5.f2)])]⟩) n v.1 v.2.1 v.2.2.1 v.2.2.2.1 v.2.2.2.2.1 v.2.2.2.2.2.1 v.2.2.2.2.2.2.1 v.2.2.2.2.2.2.2 :=
  iter_rec (X := UX) (fun v => ⟨[(0, .pv (.typ (.l34 v.1))), (3, .pv (.int .i64 v.2.1)), (4, .pv (.int .i64 v.2.2.1)), (5, .ptr 5 0), (6, .pv (.typ (.li_u8 v.2.2.2.1))), (7, .pv (.int .i64 v.2.2.2.2.1)), (8, .pv (.int .i64 v.2.2.2.2.2.1)), (9, .pv (.int .i64 v.2.2.2.2.2.2.1))], [(5, [.pv (.int .i64 v.2.2.2.2.2.2.2.f0), .pv (.int .i64 v.2.2.2.2.2.2.2.f1), .pv (.str v.2.2.2.2.2.2.2.f2)])]⟩) (fun rec v => cadastrelaw6_RecordSizes_l14_b k (fun l0 i3 k4 b6 e7 n8 v5 => K (.exit 4) ⟨[(0, .pv (.typ (.l34 l0))), (3, .pv (.int .i64 i3)), (4, .pv (.int .i64 k4)), (5, .ptr 5 0), (6, .pv (.typ (.li_u8 b6))), (7, .pv (.int .i64 e7)), (8, .pv (.int .i64 n8))], [(5, [.pv (.int .i64 v5.f0), .pv (.int .i64 v5.f1), .pv (.str v5.f2)])]⟩) (fun l0 i3 k4 b6 e7 n8 m9 v5 => rec (l0, i3, k4, b6, e7, n8, m9, v5)) v.1 v.2.1 v.2.2.1 v.2.2.2.1 v.2.2.2.2.1 v.2.2.2.2.2.1 v.2.2.2.2.2.2.1 v.2.2.2.2.2.2.2) (fun n v => cadastrelaw6_RecordSizes_l14 k (fun l0 i3 k4 b6 e7 n8 v5 => K (.exit 4) ⟨[(0, .pv (.typ (.l34 l0))), (3, .pv (.int .i64 i3)), (4, .pv (.int .i64 k4)), (5, .ptr 5 0), (6, .pv (.typ (.li_u8 b6))), (7, .pv (.int .i64 e7)), (8, .pv (.int .i64 n8))], [(5, [.pv (.int .i64 v5.f0), .pv (.int .i64 v5.f1), .pv (.str v5.f2)])]⟩) n v.1 v.2.1 v.2.2.1 v.2.2.2.1 v.2.2.2.2.1 v.2.2.2.2.2.1 v.2.2.2.2.2.2.1 v.2.2.2.2.2.2.2) (fun n v => by kernel_rfl) (fun _ => rfl) (fun _ _ => rfl)
theorem cadastrelaw6_RecordSizes_l14_ok2 {ρ : Type} (k : Nat) : IterOK UX (cadastrelaw6_RecordSizes_cfg (ρ := ρ) k) (cadastrelaw6_RecordSizes_G k) (cadastrelaw6_RecordSizes_L.getD 2 .skip) 14 (cadastrelaw6_RecordSizes_l14_s k) := by
  intro s K r h
  obtain ⟨env, hp⟩ := s
  unfold cadastrelaw6_RecordSizes_l14_s at h
  replace h := popS_inv h; obtain ⟨v1, e2, rfl, h⟩ := h
  replace h := as_l34_inv h; obtain ⟨l0, rfl, h⟩ := h
  replace h := popS_inv h; obtain ⟨v3, e4, rfl, h⟩ := h
  replace h := asI_inv h; obtain ⟨i3, rfl, h⟩ := h
  replace h := popS_inv h; obtain ⟨v5, e6, rfl, h⟩ := h
  replace h := asI_inv h; obtain ⟨k4, rfl, h⟩ := h
  replace h := popS_inv h; obtain ⟨v7, e8, rfl, h⟩ := h
  replace h := asP_inv h; obtain ⟨rfl, h⟩ := h
  replace h := popS_inv h; obtain ⟨v9, e10, rfl, h⟩ := h
  replace h := as_li_u8_inv h; obtain ⟨b6, rfl, h⟩ := h
  replace h := popS_inv h; obtain ⟨v11, e12, rfl, h⟩ := h
  replace h := asI_inv h; obtain ⟨e7, rfl, h⟩ := h
  replace h := popS_inv h; obtain ⟨v13, e14, rfl, h⟩ := h
  replace h := asI_inv h; obtain ⟨n8, rfl, h⟩ := h
  replace h := popS_inv h; obtain ⟨v15, e16, rfl, h⟩ := h
  replace h := asI_inv h; obtain ⟨m9, rfl, h⟩ := h
  replace h := popN_inv h; obtain ⟨rfl, h⟩ := h
  replace h := popB_inv h; obtain ⟨c17, e18, rfl, h⟩ := h
  replace h := popA_inv h; obtain ⟨v19, c20, rfl, h⟩ := h
  replace h := asI_inv h; obtain ⟨z21, rfl, h⟩ := h
  replace h := popA_inv h; obtain ⟨v22, c23, rfl, h⟩ := h
  replace h := asI_inv h; obtain ⟨z24, rfl, h⟩ := h
  replace h := popA_inv h; obtain ⟨v25, c26, rfl, h⟩ := h
  replace h := asS_inv h; obtain ⟨z27, rfl, h⟩ := h
  replace h := popN_inv h; obtain ⟨rfl, h⟩ := h
  replace h := popN_inv h; obtain ⟨rfl, h⟩ := h
  exact ⟨k, (cadastrelaw6_RecordSizes_l14_eq2 k K k (l0, i3, k4, b6, e7, n8, m9, (⟨z21, z24, z27⟩ : S44))).trans h⟩
theorem cadastrelaw6_RecordSizes_j4_eq0 {ρ : Type} (k : Nat) (K : Ex → St UU → Option ρ) (l0 : List S34) (i3 : Int) : exec UX (cadastrelaw6_RecordSizes_cfg k) (cadastrelaw6_RecordSizes_G k) (cadastrelaw6_RecordSizes_J.getD 0 .skip) ⟨[(0, .pv (.typ (.l34 l0))), (3, .pv (.int .i64 i3))], []⟩ (nrmK UX (cadastrelaw6_RecordSizes_cfg k) 4 K) = cadastrelaw6_RecordSizes_j4 k (fun t2 => K .ret ⟨[(2, .pv (.bool t2))], []⟩) (fun l0 i3 => K .nxt ⟨[(0, .pv (.typ (.l34 l0))), (3, .pv (.int .i64 i3))], []⟩) l0 i3 := by kernel_rfl
theorem cadastrelaw6_RecordSizes_j4_ok0 {ρ : Type} (k : Nat) : JoinOK UX (cadastrelaw6_RecordSizes_cfg (ρ := ρ) k) (cadastrelaw6_RecordSizes_G k) (cadastrelaw6_RecordSizes_J.getD 0 .skip) 4 (cadastrelaw6_RecordSizes_j4_s k) := by
  intro s K r h
  obtain ⟨env, hp⟩ := s
  unfold cadastrelaw6_RecordSizes_j4_s at h
  replace h := popS_inv h; obtain ⟨v1, e2, rfl, h⟩ := h
  replace h := as_l34_inv h; obtain ⟨l0, rfl, h⟩ := h
  replace h := popS_inv h; obtain ⟨v3, e4, rfl, h⟩ := h
  replace h := asI_inv h; obtain ⟨i3, rfl, h⟩ := h
  replace h := popN_inv h; obtain ⟨rfl, h⟩ := h
  replace h := popN_inv h; obtain ⟨rfl, h⟩ := h
  exact (cadastrelaw6_RecordSizes_j4_eq0 k K l0 i3).trans h
theorem cadastrelaw6_RecordSizes_j7_eq1 {ρ : Type} (k : Nat) (K : Ex → St UU → Option ρ) (l0 : List S34) (i3 : Int) (k4 : Int) : exec UX (cadastrelaw6_RecordSizes_cfg k) (cadastrelaw6_RecordSizes_G k) (cadastrelaw6_RecordSizes_J.getD 1 .skip) ⟨[(0, .pv (.typ (.l34 l0))), (3, .pv (.int .i64 i3)), (4, .pv (.int .i64 k4))], []⟩ (nrmK UX (cadastrelaw6_RecordSizes_cfg k) 7 K) = cadastrelaw6_RecordSizes_j7 k (fun l0 i3 k4 => K .nxt ⟨[(0, .pv (.typ (.l34 l0))), (3, .pv (.int .i64 i3)), (4, .pv (.int .i64 k4))], []⟩) (fun t2 => K .ret ⟨[(2, .pv (.bool t2))], []⟩) l0 i3 k4 := by kernel_rfl
theorem cadastrelaw6_RecordSizes_j7_ok1 {ρ : Type} (k : Nat) : JoinOK UX (cadastrelaw6_RecordSizes_cfg (ρ := ρ) k) (cadastrelaw6_RecordSizes_G k) (cadastrelaw6_RecordSizes_J.getD 1 .skip) 7 (cadastrelaw6_RecordSizes_j7_s k) := by
  intro s K r h
  obtain ⟨env, hp⟩ := s
  unfold cadastrelaw6_RecordSizes_j7_s at h
  replace h := popS_inv h; obtain ⟨v1, e2, rfl, h⟩ := h
  replace h := as_l34_inv h; obtain ⟨l0, rfl, h⟩ := h
  replace h := popS_inv h; obtain ⟨v3, e4, rfl, h⟩ := h
  replace h := asI_inv h; obtain ⟨i3, rfl, h⟩ := h
  replace h := popS_inv h; obtain ⟨v5, e6, rfl, h⟩ := h
  replace h := asI_inv h; obtain ⟨k4, rfl, h⟩ := h
  replace h := popN_inv h; obtain ⟨rfl, h⟩ := h
  replace h := popN_inv h; obtain ⟨rfl, h⟩ := h
  exact (cadastrelaw6_RecordSizes_j7_eq1 k K l0 i3 k4).trans h
theorem cadastrelaw6_RecordSizes_j18_eq2 {ρ : Type} (k : Nat) (K : Ex → St UU → Option ρ) (l0 : List S34) (i3 : Int) (k4 : Int) (b6 : List Int) (e7 : Int) (n8 : Int) (v5 : S44) : exec UX (cadastrelaw6_RecordSizes_cfg k) (cadastrelaw6_RecordSizes_G k) (cadastrelaw6_RecordSizes_J.getD 2 .skip) ⟨[(0, .pv (.typ (.l34 l0))), (3, .pv (.int .i64 i3)), (4, .pv (.int .i64 k4)), (5, .ptr 5 0), (6, .pv (.typ (.li_u8 b6))), (7, .pv (.int .i64 e7)), (8, .pv (.int .i64 n8))], [(5, [.pv (.int .i64 v5.f0), .pv (.int .i64 v5.f1), .pv (.str v5.f2)])]⟩ (nrmK UX (cadastrelaw6_RecordSizes_cfg k) 18 K) = cadastrelaw6_RecordSizes_j18 k (fun t2 => K .ret ⟨[(2, .pv (.bool t2))], []⟩) (fun l0 i3 k4 => K .nxt ⟨[(0, .pv (.typ (.l34 l0))), (3, .pv (.int .i64 i3)), (4, .pv (.int .i64 k4))], []⟩) l0 i3 k4 b6 e7 n8 v5 := by kernel_rfl
theorem cadastrelaw6_RecordSizes_j18_ok2 {ρ : Type} (k : Nat) : JoinOK UX (cadastrelaw6_RecordSizes_cfg (ρ := ρ) k) (cadastrelaw6_RecordSizes_G k) (cadastrelaw6_RecordSizes_J.getD 2 .skip) 18 (cadastrelaw6_RecordSizes_j18_s k) := by
  intro s K r h
  obtain ⟨env, hp⟩ := s
  unfold cadastrelaw6_RecordSizes_j18_s at h
  replace h := popS_inv h; obtain ⟨v1, e2, rfl, h⟩ := h
  replace h := as_l34_inv h; obtain ⟨l0, rfl, h⟩ := h
  replace h := popS_inv h; obtain ⟨v3, e4, rfl, h⟩ := h
  replace h := asI_inv h; obtain ⟨i3, rfl, h⟩ := h
  replace h := popS_inv h; obtain ⟨v5, e6, rfl, h⟩ := h
  replace h := asI_inv h; obtain ⟨k4, rfl, h⟩ := h
  replace h := popS_inv h; obtain ⟨v7, e8, rfl, h⟩ := h
  replace h := asP_inv h; obtain ⟨rfl, h⟩ := h
  replace h := popS_inv h; obtain ⟨v9, e10, rfl, h⟩ := h
  replace h := as_li_u8_inv h; obtain ⟨b6, rfl, h⟩ := h
  replace h := popS_inv h; obtain ⟨v11, e12, rfl, h⟩ := h
  replace h := asI_inv h; obtain ⟨e7, rfl, h⟩ := h
  replace h := popS_inv h; obtain ⟨v13, e14, rfl, h⟩ := h
  replace h := asI_inv h; obtain ⟨n8, rfl, h⟩ := h
  replace h := popN_inv h; obtain ⟨rfl, h⟩ := h
  replace h := popB_inv h; obtain ⟨c15, e16, rfl, h⟩ := h
  replace h := popA_inv h; obtain ⟨v17, c18, rfl, h⟩ := h
  replace h := asI_inv h; obtain ⟨z19, rfl, h⟩ := h
  replace h := popA_inv h; obtain ⟨v20, c21, rfl, h⟩ := h
  replace h := asI_inv h; obtain ⟨z22, rfl, h⟩ := h
  replace h := popA_inv h; obtain ⟨v23, c24, rfl, h⟩ := h
  replace h := asS_inv h; obtain ⟨z25, rfl, h⟩ := h
  replace h := popN_inv h; obtain ⟨rfl, h⟩ := h
  replace h := popN_inv h; obtain ⟨rfl, h⟩ := h
  exact (cadastrelaw6_RecordSizes_j18_eq2 k K l0 i3 k4 b6 e7 n8 (⟨z19, z22, z25⟩ : S44)).trans h
theorem cadastrelaw6_RecordSizes_j12_eq3 {ρ : Type} (k : Nat) (K : Ex → St UU → Option ρ) (l0 : List S34) (i3 : Int) (k4 : Int) (b6 : List Int) (e7 : Int) (v5 : S44) : exec UX (cadastrelaw6_RecordSizes_cfg k) (cadastrelaw6_RecordSizes_G k) (cadastrelaw6_RecordSizes_J.getD 3 .skip) ⟨[(0, .pv (.typ (.l34 l0))), (3, .pv (.int .i64 i3)), (4, .pv (.int .i64 k4)), (5, .ptr 5 0), (6, .pv (.typ (.li_u8 b6))), (7, .pv (.int .i64 e7))], [(5, [.pv (.int .i64 v5.f0), .pv (.int .i64 v5.f1), .pv (.str v5.f2)])]⟩ (nrmK UX (cadastrelaw6_RecordSizes_cfg k) 12 K) = cadastrelaw6_RecordSizes_j12 k (fun l0 i3 k4 b6 e7 n8 v5 => K .nxt ⟨[(0, .pv (.typ (.l34 l0))), (3, .pv (.int .i64 i3)), (4, .pv (.int .i64 k4)), (5, .ptr 5 0), (6, .pv (.typ (.li_u8 b6))), (7, .pv (.int .i64 e7)), (8, .pv (.int .i64 n8))], [(5, [.pv (.int .i64 v5.f0), .pv (.int .i64 v5.f1), .pv (.str v5.f2)])]⟩) l0 i3 k4 b6 e7 v5 := by kernel_rfl
theorem cadastrelaw6_RecordSizes_j12_ok3 {ρ : Type} (k : Nat) : JoinOK UX (cadastrelaw6_RecordSizes_cfg (ρ := ρ) k) (cadastrelaw6_RecordSizes_G k) (cadastrelaw6_RecordSizes_J.getD 3 .skip) 12 (cadastrelaw6_RecordSizes_j12_s k) := by
  intro s K r h
  obtain ⟨env, hp⟩ := s
  unfold cadastrelaw6_RecordSizes_j12_s at h
  replace h := popS_inv h; obtain ⟨v1, e2, rfl, h⟩ := h
  replace h := as_l34_inv h; obtain ⟨l0, rfl, h⟩ := h
  replace h := popS_inv h; obtain ⟨v3, e4, rfl, h⟩ := h
  replace h := asI_inv h; obtain ⟨i3, rfl, h⟩ := h
  replace h := popS_inv h; obtain ⟨v5, e6, rfl, h⟩ := h
  replace h := asI_inv h; obtain ⟨k4, rfl, h⟩ := h
  replace h := popS_inv h; obtain ⟨v7, e8, rfl, h⟩ := h
  replace h := asP_inv h; obtain ⟨rfl, h⟩ := h
  replace h := popS_inv h; obtain ⟨v9, e10, rfl, h⟩ := h
  replace h := as_li_u8_inv h; obtain ⟨b6, rfl, h⟩ := h
  replace h := popS_inv h; obtain ⟨v11, e12, rfl, h⟩ := h
  replace h := asI_inv h; obtain ⟨e7, rfl, h⟩ := h
  replace h := popN_inv h; obtain ⟨rfl, h⟩ := h
  replace h := popB_inv h; obtain ⟨c13, e14, rfl, h⟩ := h
  replace h := popA_inv h; obtain ⟨v15, c16, rfl, h⟩ := h
  replace h := asI_inv h; obtain ⟨z17, rfl, h⟩ := h
  replace h := popA_inv h; obtain ⟨v18, c19, rfl, h⟩ := h
  replace h := asI_inv h; obtain ⟨z20, rfl, h⟩ := h
  replace h := popA_inv h; obtain ⟨v21, c22, rfl, h⟩ := h
  replace h := asS_inv h; obtain ⟨z23, rfl, h⟩ := h
  replace h := popN_inv h; obtain ⟨rfl, h⟩ := h
  replace h := popN_inv h; obtain ⟨rfl, h⟩ := h
  exact (cadastrelaw6_RecordSizes_j12_eq3 k K l0 i3 k4 b6 e7 (⟨z17, z20, z23⟩ : S44)).trans h
theorem cadastrelaw6_RecordSizes_j21_eq4 {ρ : Type} (k : Nat) (K : Ex → St UU → Option ρ) (l0 : List S34) (i3 : Int) (k4 : Int) (b6 : List Int) (e7 : Int) (n8 : Int) (head10 : Int) : exec UX (cadastrelaw6_RecordSizes_cfg k) (cadastrelaw6_RecordSizes_G k) (cadastrelaw6_RecordSizes_J.getD 4 .skip) ⟨[(0, .pv (.typ (.l34 l0))), (3, .pv (.int .i64 i3)), (4, .pv (.int .i64 k4)), (6, .pv (.typ (.li_u8 b6))), (7, .pv (.int .i64 e7)), (8, .pv (.int .i64 n8)), (10, .pv (.int .i64 head10))], []⟩ (nrmK UX (cadastrelaw6_RecordSizes_cfg k) 21 K) = cadastrelaw6_RecordSizes_j21 k (fun t2 => K .ret ⟨[(2, .pv (.bool t2))], []⟩) (fun l0 i3 k4 => K .nxt ⟨[(0, .pv (.typ (.l34 l0))), (3, .pv (.int .i64 i3)), (4, .pv (.int .i64 k4))], []⟩) l0 i3 k4 b6 e7 n8 head10 := by kernel_rfl
theorem cadastrelaw6_RecordSizes_j21_ok4 {ρ : Type} (k : Nat) : JoinOK UX (cadastrelaw6_RecordSizes_cfg (ρ := ρ) k) (cadastrelaw6_RecordSizes_G k) (cadastrelaw6_RecordSizes_J.getD 4 .skip) 21 (cadastrelaw6_RecordSizes_j21_s k) := by
  intro s K r h
  obtain ⟨env, hp⟩ := s
  unfold cadastrelaw6_RecordSizes_j21_s at h
  replace h := popS_inv h; obtain ⟨v1, e2, rfl, h⟩ := h
  replace h := as_l34_inv h; obtain ⟨l0, rfl, h⟩ := h
  replace h := popS_inv h; obtain ⟨v3, e4, rfl, h⟩ := h
  replace h := asI_inv h; obtain ⟨i3, rfl, h⟩ := h
  replace h := popS_inv h; obtain ⟨v5, e6, rfl, h⟩ := h
  replace h := asI_inv h; obtain ⟨k4, rfl, h⟩ := h
  replace h := popS_inv h; obtain ⟨v7, e8, rfl, h⟩ := h
  replace h := as_li_u8_inv h; obtain ⟨b6, rfl, h⟩ := h
  replace h := popS_inv h; obtain ⟨v9, e10, rfl, h⟩ := h
  replace h := asI_inv h; obtain ⟨e7, rfl, h⟩ := h
  replace h := popS_inv h; obtain ⟨v11, e12, rfl, h⟩ := h
  replace h := asI_inv h; obtain ⟨n8, rfl, h⟩ := h
  replace h := popS_inv h; obtain ⟨v13, e14, rfl, h⟩ := h
  replace h := asI_inv h; obtain ⟨head10, rfl, h⟩ := h
  replace h := popN_inv h; obtain ⟨rfl, h⟩ := h
  replace h := popN_inv h; obtain ⟨rfl, h⟩ := h
  exact (cadastrelaw6_RecordSizes_j21_eq4 k K l0 i3 k4 b6 e7 n8 head10).trans h
theorem cadastrelaw6_RecordSizes_cok {ρ : Type} (k : Nat) : COK (cadastrelaw6_RecordSizes_cfg (ρ := ρ) k) (cadastrelaw6_RecordSizes_G k) cadastrelaw6_RecordSizes_code :=
  cok_of (tl := [(14, cadastrelaw6_RecordSizes_l14_s k), (5, cadastrelaw6_RecordSizes_l5_s k), (2, cadastrelaw6_RecordSizes_l2_s k)]) (tj := [(12, cadastrelaw6_RecordSizes_j12_s k), (21, cadastrelaw6_RecordSizes_j21_s k), (18, cadastrelaw6_RecordSizes_j18_s k), (7, cadastrelaw6_RecordSizes_j7_s k), (4, cadastrelaw6_RecordSizes_j4_s k)]) (tb := []) rfl rfl rfl (all_nth 3 (by kernel_rfl) ⟨iter_case (by kernel_rfl) rfl (cadastrelaw6_RecordSizes_l14_ok2 k), iter_case (by kernel_rfl) rfl (cadastrelaw6_RecordSizes_l5_ok1 k), iter_case (by kernel_rfl) rfl (cadastrelaw6_RecordSizes_l2_ok0 k), trivial⟩) (all_nth 5 (by kernel_rfl) ⟨join_case (by kernel_rfl) rfl (cadastrelaw6_RecordSizes_j21_ok4 k), join_case (by kernel_rfl) rfl (cadastrelaw6_RecordSizes_j12_ok3 k), join_case (by kernel_rfl) rfl (cadastrelaw6_RecordSizes_j18_ok2 k), join_case (by kernel_rfl) rfl (cadastrelaw6_RecordSizes_j7_ok1 k), join_case (by kernel_rfl) rfl (cadastrelaw6_RecordSizes_j4_ok0 k), trivial⟩) (fun p hp => by cases hp)
noncomputable def cadastrelaw6_RecordSizes_enc (r : Bool) : AV UU := .pv (.bool r)
noncomputable def cadastrelaw6_RecordSizes_dec (v : AV UU) (_ : List (List (AV UU))) : Option Bool :=
asB v fun r0 =>
some r0
theorem cadastrelaw6_RecordSizes_dec_enc (v : AV UU) (b : List (List (AV UU))) (r : Bool) (h : cadastrelaw6_RecordSizes_dec v b = some r) : v = cadastrelaw6_RecordSizes_enc r := by
  unfold cadastrelaw6_RecordSizes_dec at h
  replace h := asB_inv h; obtain ⟨r0, rfl, h⟩ := h
  cases h
  rfl
theorem cadastrelaw6_RecordSizes_eq (k : Nat) (l0 : List S34) : bodyK UX (cadastrelaw6_RecordSizes_cfg k) (cadastrelaw6_RecordSizes_G k) Try.f5 [.pv (.typ (.l34 l0))] [] cadastrelaw6_RecordSizes_dec = cadastrelaw6_RecordSizes k l0 := by kernel_rfl
theorem cadastrelaw6_RecordSizes_con (k : Nat) (l0 : List S34) (r : Bool) (h : cadastrelaw6_RecordSizes k l0 = some r) : Con (X := UX) Try.prog 5 [.pv (.typ (.l34 l0))] [] (cadastrelaw6_RecordSizes_enc r) [] :=
  con_of_body xok tok Try.func5 cadastrelaw6_RecordSizes_body (cadastrelaw6_RecordSizes_gok k) rfl (cadastrelaw6_RecordSizes_cok k) (of_decide_eq_true (by kernel_rfl)) cadastrelaw6_RecordSizes_dec_enc ((cadastrelaw6_RecordSizes_eq k l0).trans h)
noncomputable def cadastrelaw6_RecordSizes_an {ρ : Type} (k : Nat) : An UX ρ := fun args bx K =>
popA args fun v1 a2 =>
as_l34 v1 fun l0 =>
popN a2 <|
popN bx <|
(cadastrelaw6_RecordSizes k l0).bind fun r => K (cadastrelaw6_RecordSizes_enc r) []
theorem cadastrelaw6_RecordSizes_ok {ρ : Type} (k : Nat) : AnsOK Try.prog 5 (cadastrelaw6_RecordSizes_an (ρ := ρ) k) := by
  intro args bx K r h
  unfold cadastrelaw6_RecordSizes_an at h
  replace h := popA_inv h; obtain ⟨v1, a2, rfl, h⟩ := h
  replace h := as_l34_inv h; obtain ⟨l0, rfl, h⟩ := h
  replace h := popN_inv h; obtain ⟨rfl, h⟩ := h
  replace h := popN_inv h; obtain ⟨rfl, h⟩ := h
  replace h := bind_inv h
  obtain ⟨x, hx, h⟩ := h
  exact ⟨there_of Try.func5 (by kernel_rfl) cadastrelaw6_RecordSizes_body, _, _, h, cadastrelaw6_RecordSizes_con k l0 x hx⟩

/-! cadastre/varint.Get -/
noncomputable def varint_Get_code : Code := match Try.f68.body with | some c => c | none => .skip
theorem varint_Get_body : Try.f68.body = some varint_Get_code := by kernel_rfl
noncomputable def varint_Get_G {ρ : Type} (k : Nat) : Ans UX ρ := gnil
theorem varint_Get_gok {ρ : Type} (k : Nat) : GOK Try.prog (varint_Get_G (ρ := ρ) k) := gok_nil
noncomputable def varint_Get_j1_s {ρ : Type} (k : Nat) : Run UX ρ := fun s K =>
popS 0 s.env fun v1 e2 =>
as_li_u8 v1 fun b0 =>
popS 2 e2 fun v3 e4 =>
asI .u64 v3 fun n2 =>
popS 3 e4 fun v5 e6 =>
asI .i64 v5 fun size3 =>
popN e6 <|
popN s.hp <|
varint_Get_j1 k (fun n2 size3 e4 => K .ret ⟨[(2, .pv (.int .u64 n2)), (3, .pv (.int .i64 size3)), (4, .pv (.int .i64 e4))], []⟩) (fun b0 n2 size3 => K (.goto 0) ⟨[(0, .pv (.typ (.li_u8 b0))), (2, .pv (.int .u64 n2)), (3, .pv (.int .i64 size3))], []⟩) b0 n2 size3
noncomputable def varint_Get_g0_s {ρ : Type} (k : Nat) : Run UX ρ := fun s K =>
popS 0 s.env fun v1 e2 =>
as_li_u8 v1 fun b0 =>
popS 2 e2 fun v3 e4 =>
asI .u64 v3 fun n2 =>
popS 3 e4 fun v5 e6 =>
asI .i64 v5 fun size3 =>
popN e6 <|
popN s.hp <|
varint_Get_g0 k (fun n2 size3 e4 => K .ret ⟨[(2, .pv (.int .u64 n2)), (3, .pv (.int .i64 size3)), (4, .pv (.int .i64 e4))], []⟩) k b0 n2 size3
noncomputable def varint_Get_cfg {ρ : Type} (k : Nat) : Cfg UX ρ where
  live i := (assoc [(0, [0]), (1, [0, 2, 3]), (2, []), (3, [0, 2, 3]), (4, [0, 2, 3, 5]), (5, [0, 2, 3, 5]), (6, [2, 3, 5]), (7, [2, 3]), (8, []), (9, [2, 3]), (10, [0, 2, 3, 5]), (11, [0, 2, 3, 5]), (12, [2, 3]), (13, []), (14, [2, 3])] i).getD []
  boxes i := (assoc [(0, []), (1, []), (2, []), (3, []), (4, []), (5, []), (6, []), (7, []), (8, []), (9, []), (10, []), (11, []), (12, []), (13, []), (14, [])] i).getD []
  tk i := (assoc [] i).getD []
  n := 47
  labelR l := (assoc [(0, 1)] l).getD 0
  loops := assoc []
  labels := assoc [(0, varint_Get_g0_s k)]
  joins := assoc [(1, varint_Get_j1_s k)]
  xl i e := match e with
    | .nxt => assoc [] i
    | .ret => assoc [(1, ([2, 3, 4], [])), (1, ([2, 3, 4], []))] i
    | .exit j => (assoc [] i).bind fun l => assoc l j
    | .goto j => (assoc [(1, [(0, ([0, 2, 3], []))])] i).bind fun l => assoc l j
noncomputable def varint_Get_L : List Code := selI [] (loopsOf varint_Get_code)
noncomputable def varint_Get_J : List Code := selI [1] (joinsOf varint_Get_code)
noncomputable def varint_Get_S : List Code := scopesOf varint_Get_code
theorem varint_Get_j1_eq0 {ρ : Type} (k : Nat) (K : Ex → St UU → Option ρ) (b0 : List Int) (n2 : Int) (size3 : Int) : exec UX (varint_Get_cfg k) (varint_Get_G k) (varint_Get_J.getD 0 .skip) ⟨[(0, .pv (.typ (.li_u8 b0))), (2, .pv (.int .u64 n2)), (3, .pv (.int .i64 size3))], []⟩ (nrmK UX (varint_Get_cfg k) 1 K) = varint_Get_j1 k (fun n2 size3 e4 => K .ret ⟨[(2, .pv (.int .u64 n2)), (3, .pv (.int .i64 size3)), (4, .pv (.int .i64 e4))], []⟩) (fun b0 n2 size3 => K (.goto 0) ⟨[(0, .pv (.typ (.li_u8 b0))), (2, .pv (.int .u64 n2)), (3, .pv (.int .i64 size3))], []⟩) b0 n2 size3 := by kernel_rfl
theorem varint_Get_j1_ok0 {ρ : Type} (k : Nat) : JoinOK UX (varint_Get_cfg (ρ := ρ) k) (varint_Get_G k) (varint_Get_J.getD 0 .skip) 1 (varint_Get_j1_s k) := by
  intro s K r h
  obtain ⟨env, hp⟩ := s
  unfold varint_Get_j1_s at h
  replace h := popS_inv h; obtain ⟨v1, e2, rfl, h⟩ := h
  replace h := as_li_u8_inv h; obtain ⟨b0, rfl, h⟩ := h
  replace h := popS_inv h; obtain ⟨v3, e4, rfl, h⟩ := h
  replace h := asI_inv h; obtain ⟨n2, rfl, h⟩ := h
  replace h := popS_inv h; obtain ⟨v5, e6, rfl, h⟩ := h
  replace h := asI_inv h; obtain ⟨size3, rfl, h⟩ := h
  replace h := popN_inv h; obtain ⟨rfl, h⟩ := h
  replace h := popN_inv h; obtain ⟨rfl, h⟩ := h
  exact (varint_Get_j1_eq0 k K b0 n2 size3).trans h
noncomputable def varint_Get_g0_f0 {ρ : Type} (k : Nat) : Run UX ρ := (suff UX (varint_Get_cfg k) (varint_Get_G k) (varint_Get_S.getD 0 .skip) 0).getD fun _ _ => none
theorem varint_Get_g0_eq0 {ρ : Type} (k : Nat) (K : Ex → St UU → Option ρ) : ∀ (n : Nat) (v : (List Int) × Int × Int), scopeN UX (fun l s => s.at (varint_Get_cfg (ρ := ρ) k).live (varint_Get_cfg (ρ := ρ) k).boxes (some ((varint_Get_cfg (ρ := ρ) k).labelR l))) (suff UX (varint_Get_cfg k) (varint_Get_G k) (varint_Get_S.getD 0 .skip)) (fun l => ((varint_Get_cfg (ρ := ρ) k).labels l).isSome) n (varint_Get_g0_f0 k) ⟨[(0, .pv (.typ (.li_u8 v.1))), (2, .pv (.int .u64 v.2.1)), (3, .pv (.int .i64 v.2.2))], []⟩ (nrmK UX (varint_Get_cfg k) ((varint_Get_cfg (ρ := ρ) k).labelR 0) K) = varint_Get_g0 k (fun n2 size3 e4 => K .ret ⟨[(2, .pv (.int .u64 n2)), (3, .pv (.int .i64 size3)), (4, .pv (.int .i64 e4))], []⟩) n v.1 v.2.1 v.2.2 :=
  scope_rec (X := UX) (fun _ => varint_Get_g0_f0 k) (fun v => ⟨[(0, .pv (.typ (.li_u8 v.1))), (2, .pv (.int .u64 v.2.1)), (3, .pv (.int .i64 v.2.2))], []⟩) (fun rec v => varint_Get_g0_b k (fun n2 size3 e4 => K .ret ⟨[(2, .pv (.int .u64 n2)), (3, .pv (.int .i64 size3)), (4, .pv (.int .i64 e4))], []⟩) (fun b0 n2 size3 => rec (b0, n2, size3)) v.1 v.2.1 v.2.2) (fun n v => varint_Get_g0 k (fun n2 size3 e4 => K .ret ⟨[(2, .pv (.int .u64 n2)), (3, .pv (.int .i64 size3)), (4, .pv (.int .i64 e4))], []⟩) n v.1 v.2.1 v.2.2) (fun n v => by kernel_rfl) (fun _ => rfl) (fun _ _ => rfl)
theorem varint_Get_g0_ok0 {ρ : Type} (k : Nat) : LabOK UX (varint_Get_cfg (ρ := ρ) k) (varint_Get_G k) (varint_Get_S.getD 0 .skip) 0 (varint_Get_g0_s k) := by
  intro f hf s K r h
  have hf : varint_Get_g0_f0 k = f := by unfold varint_Get_g0_f0; rw [hf]; rfl
  subst hf
  obtain ⟨env, hp⟩ := s
  unfold varint_Get_g0_s at h
  replace h := popS_inv h; obtain ⟨v1, e2, rfl, h⟩ := h
  replace h := as_li_u8_inv h; obtain ⟨b0, rfl, h⟩ := h
  replace h := popS_inv h; obtain ⟨v3, e4, rfl, h⟩ := h
  replace h := asI_inv h; obtain ⟨n2, rfl, h⟩ := h
  replace h := popS_inv h; obtain ⟨v5, e6, rfl, h⟩ := h
  replace h := asI_inv h; obtain ⟨size3, rfl, h⟩ := h
  replace h := popN_inv h; obtain ⟨rfl, h⟩ := h
  replace h := popN_inv h; obtain ⟨rfl, h⟩ := h
  exact ⟨k, (varint_Get_g0_eq0 k K k (b0, n2, size3)).trans h⟩
theorem varint_Get_cok {ρ : Type} (k : Nat) : COK (varint_Get_cfg (ρ := ρ) k) (varint_Get_G k) varint_Get_code :=
  cok_of (tl := []) (tj := [(1, varint_Get_j1_s k)]) (tb := [(0, varint_Get_g0_s k)]) rfl rfl rfl (nil_all (by kernel_rfl)) (all_nth 1 (by kernel_rfl) ⟨join_case (by kernel_rfl) rfl (varint_Get_j1_ok0 k), trivial⟩) (fun p hp => by
    simp only [List.mem_cons, List.not_mem_nil, or_false] at hp
    subst hp
    · exact all_nth 1 (by kernel_rfl) ⟨varint_Get_g0_ok0 k, trivial⟩)
noncomputable def varint_Get_enc (r : Int × Int × Int) : AV UU := .pv (.tup [.int .u64 r.1, .int .i64 r.2.1, .int .i64 r.2.2])
noncomputable def varint_Get_dec (v : AV UU) (_ : List (List (AV UU))) : Option (Int × Int × Int) :=
asT v fun q1 =>
popA q1 fun p2 q3 =>
asI .u64 (.pv p2) fun r0 =>
popA q3 fun p4 q5 =>
asI .i64 (.pv p4) fun r1 =>
popA q5 fun p6 q7 =>
asI .i64 (.pv p6) fun r2 =>
popN q7 <|
some (r0, r1, r2)
theorem varint_Get_dec_enc (v : AV UU) (b : List (List (AV UU))) (r : Int × Int × Int) (h : varint_Get_dec v b = some r) : v = varint_Get_enc r := by
  unfold varint_Get_dec at h
  replace h := asT_inv h; obtain ⟨q1, rfl, h⟩ := h
  replace h := popA_inv h; obtain ⟨p2, q3, rfl, h⟩ := h
  replace h := asI_inv h; obtain ⟨r0, e, h⟩ := h; cases e
  replace h := popA_inv h; obtain ⟨p4, q5, rfl, h⟩ := h
  replace h := asI_inv h; obtain ⟨r1, e, h⟩ := h; cases e
  replace h := popA_inv h; obtain ⟨p6, q7, rfl, h⟩ := h
  replace h := asI_inv h; obtain ⟨r2, e, h⟩ := h; cases e
  replace h := popN_inv h; obtain ⟨rfl, h⟩ := h
  cases h
  rfl
theorem varint_Get_eq (k : Nat) (b0 : List Int) : bodyK UX (varint_Get_cfg k) (varint_Get_G k) Try.f68 [.pv (.typ (.li_u8 b0))] [] varint_Get_dec = varint_Get k b0 := by kernel_rfl
theorem varint_Get_con (k : Nat) (b0 : List Int) (r : Int × Int × Int) (h : varint_Get k b0 = some r) : Con (X := UX) Try.prog 68 [.pv (.typ (.li_u8 b0))] [] (varint_Get_enc r) [] :=
  con_of_body xok tok Try.func68 varint_Get_body (varint_Get_gok k) rfl (varint_Get_cok k) (of_decide_eq_true (by kernel_rfl)) varint_Get_dec_enc ((varint_Get_eq k b0).trans h)
noncomputable def varint_Get_an {ρ : Type} (k : Nat) : An UX ρ := fun args bx K =>
popA args fun v1 a2 =>
as_li_u8 v1 fun b0 =>
popN a2 <|
popN bx <|
(varint_Get k b0).bind fun r => K (varint_Get_enc r) []
theorem varint_Get_ok {ρ : Type} (k : Nat) : AnsOK Try.prog 68 (varint_Get_an (ρ := ρ) k) := by
  intro args bx K r h
  unfold varint_Get_an at h
  replace h := popA_inv h; obtain ⟨v1, a2, rfl, h⟩ := h
  replace h := as_li_u8_inv h; obtain ⟨b0, rfl, h⟩ := h
  replace h := popN_inv h; obtain ⟨rfl, h⟩ := h
  replace h := popN_inv h; obtain ⟨rfl, h⟩ := h
  replace h := bind_inv h
  obtain ⟨x, hx, h⟩ := h
  exact ⟨there_of Try.func68 (by kernel_rfl) varint_Get_body, _, _, h, varint_Get_con k b0 x hx⟩
end Go.Proofs.Ytekjibpkkgldgaa.R
