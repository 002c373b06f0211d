/-
  What the program's functions answer: the printed functions' answers.
-/
import Derived.Test.YtekjibpkkgldgaaRG1
namespace Go.Proofs.Ytekjibpkkgldgaa.R
open Go Go.AX
/-! cadastre/record.Encode -/
noncomputable def record_Encode_code : Code := match Try.f21.body with | some c => c | none => .skip
theorem record_Encode_body : Try.f21.body = some record_Encode_code := by kernel_rfl
noncomputable def record_Encode_G {ρ : Type} (k : Nat) : Ans UX ρ := gk 53 (value_All_an k) (gk 50 (varint_Put_an k) (gk 54 (record_kind_an k) (gk 55 (record_put_o0_an k) (gnil))))
theorem record_Encode_gok {ρ : Type} (k : Nat) : GOK Try.prog (record_Encode_G (ρ := ρ) k) := gok_cons (value_All_ok k) (gok_cons (varint_Put_ok k) (gok_cons (record_kind_ok k) (gok_cons (record_put_o0_ok k) (gok_nil))))
noncomputable def record_Encode_l7_s {ρ : Type} (k : Nat) : Run UX ρ := fun s K =>
popS 0 s.env fun v1 e2 =>
as_l44 v1 fun l0 =>
popS 4 e2 fun v3 e4 =>
asO_li_u8 v3 fun b4 =>
popS 19 e4 fun v5 e6 =>
as_l44 v5 fun t19 =>
popS 20 e6 fun v7 e8 =>
asI .i64 v7 fun t20 =>
popS 21 e8 fun v9 e10 =>
asI .i64 v9 fun t21 =>
popN e10 <|
popN s.hp <|
record_Encode_l7 k (fun l0 b4 => K (.exit 0) ⟨[(0, .pv (.typ (.l44 l0))), (4, .own (.li_u8 b4))], []⟩) k l0 b4 t19 t20 t21
noncomputable def record_Encode_l12_s {ρ : Type} (k : Nat) : Run UX ρ := fun s K =>
popS 4 s.env fun v1 e2 =>
asO_li_u8 v1 fun b4 =>
popS 31 e2 fun v3 e4 =>
as_l44 v3 fun t31 =>
popS 32 e4 fun v5 e6 =>
asI .i64 v5 fun t32 =>
popS 33 e6 fun v7 e8 =>
asI .i64 v7 fun t33 =>
popN e8 <|
popN s.hp <|
record_Encode_l12 k (fun b4 => K (.exit 2) ⟨[(4, .own (.li_u8 b4))], []⟩) k b4 t31 t32 t33
noncomputable def record_Encode_cfg {ρ : Type} (k : Nat) : Cfg UX ρ where
  live i := (assoc [(0, [0]), (1, [0]), (2, []), (3, [0]), (4, []), (5, [0]), (6, [0, 4]), (7, [0, 4, 19, 20, 21]), (8, [0, 4, 19, 20, 21]), (9, [0, 4, 6, 19, 20, 21]), (10, [0, 4, 19, 20, 21]), (11, [0, 4]), (12, [4, 31, 32, 33]), (13, [4, 31, 32, 33]), (14, [4, 8, 31, 32, 33]), (15, [4, 31, 32, 33]), (16, [4]), (17, []), (18, [4])] i).getD []
  boxes i := (assoc [(0, []), (1, []), (2, []), (3, []), (4, []), (5, []), (6, []), (7, []), (8, []), (9, [6]), (10, []), (11, []), (12, []), (13, []), (14, [8]), (15, []), (16, []), (17, []), (18, [])] i).getD []
  tk i := (assoc [(55, [0]), (1000000, [2])] i).getD []
  n := 45
  labelR l := (assoc [] l).getD 0
  loops := assoc [(7, record_Encode_l7_s k), (12, record_Encode_l12_s k)]
  labels := assoc []
  joins := assoc []
  xl i e := match e with
    | .nxt => assoc [] i
    | .ret => assoc [] i
    | .exit j => (assoc [(7, [(0, ([0, 4], []))]), (12, [(2, ([4], []))])] i).bind fun l => assoc l j
    | .goto j => (assoc [] i).bind fun l => assoc l j
noncomputable def record_Encode_L : List Code := selI [7, 12] (loopsOf record_Encode_code)
noncomputable def record_Encode_J : List Code := selI [] (joinsOf record_Encode_code)
noncomputable def record_Encode_S : List Code := scopesOf record_Encode_code
theorem record_Encode_l7_eq0 {ρ : Type} (k : Nat) (K : Ex → St UU → Option ρ) : ∀ (n : Nat) (v : (List S44) × (List Int) × (List S44) × Int × Int), iterK UX (fun s => s.at (record_Encode_cfg (ρ := ρ) k).live (record_Encode_cfg (ρ := ρ) k).boxes (some 7)) (exec UX (record_Encode_cfg k) (record_Encode_G k) (record_Encode_L.getD 0 .skip)) n ⟨[(0, .pv (.typ (.l44 v.1))), (4, .own (.li_u8 v.2.1)), (19, .pv (.typ (.l44 v.2.2.1))), (20, .pv (.int .i64 v.2.2.2.1)), (21, .pv (.int .i64 v.2.2.2.2))], []⟩ (nrmK UX (record_Encode_cfg k) 7 K) = record_Encode_l7 k (fun l0 b4 => K (.exit 0) ⟨[(0, .pv (.typ (.l44 l0))), (4, .own (.li_u8 b4))], []⟩) n v.1 v.2.1 v.2.2.1 v.2.2.2.1 v.2.2.2.2 :=
  iter_rec (X := UX) (fun v => ⟨[(0, .pv (.typ (.l44 v.1))), (4, .own (.li_u8 v.2.1)), (19, .pv (.typ (.l44 v.2.2.1))), (20, .pv (.int .i64 v.2.2.2.1)), (21, .pv (.int .i64 v.2.2.2.2))], []⟩) (fun rec v => record_Encode_l7_b k (fun l0 b4 => K (.exit 0) ⟨[(0, .pv (.typ (.l44 l0))), (4, .own (.li_u8 b4))], []⟩) (fun l0 b4 t19 t20 t21 => rec (l0, b4, t19, t20, t21)) v.1 v.2.1 v.2.2.1 v.2.2.2.1 v.2.2.2.2) (fun n v => record_Encode_l7 k (fun l0 b4 => K (.exit 0) ⟨[(0, .pv (.typ (.l44 l0))), (4, .own (.li_u8 b4))], []⟩) n v.1 v.2.1 v.2.2.1 v.2.2.2.1 v.2.2.2.2) (fun n v => by kernel_rfl) (fun _ => rfl) (fun _ _ => rfl)
theorem record_Encode_l7_ok0 {ρ : Type} (k : Nat) : IterOK UX (record_Encode_cfg (ρ := ρ) k) (record_Encode_G k) (record_Encode_L.getD 0 .skip) 7 (record_Encode_l7_s k) := by
  intro s K r h
  obtain ⟨env, hp⟩ := s
  unfold record_Encode_l7_s at h
  replace h := popS_inv h; obtain ⟨v1, e2, rfl, h⟩ := h
  replace h := as_l44_inv h; obtain ⟨l0, rfl, h⟩ := h
  replace h := popS_inv h; obtain ⟨v3, e4, rfl, h⟩ := h
  replace h := asO_li_u8_inv h; obtain ⟨b4, rfl, h⟩ := h
  replace h := popS_inv h; obtain ⟨v5, e6, rfl, h⟩ := h
  replace h := as_l44_inv h; obtain ⟨t19, rfl, h⟩ := h
  replace h := popS_inv h; obtain ⟨v7, e8, rfl, h⟩ := h
  replace h := asI_inv h; obtain ⟨t20, rfl, h⟩ := h
  replace h := popS_inv h; obtain ⟨v9, e10, rfl, h⟩ := h
  replace h := asI_inv h; obtain ⟨t21, rfl, h⟩ := h
  replace h := popN_inv h; obtain ⟨rfl, h⟩ := h
  replace h := popN_inv h; obtain ⟨rfl, h⟩ := h
  exact ⟨k, (record_Encode_l7_eq0 k K k (l0, b4, t19, t20, t21)).trans h⟩
theorem record_Encode_l12_eq1 {ρ : Type} (k : Nat) (K : Ex → St UU → Option ρ) : ∀ (n : Nat) (v : (List Int) × (List S44) × Int × Int), iterK UX (fun s => s.at (record_Encode_cfg (ρ := ρ) k).live (record_Encode_cfg (ρ := ρ) k).boxes (some 12)) (exec UX (record_Encode_cfg k) (record_Encode_G k) (record_Encode_L.getD 1 .skip)) n ⟨[(4, .own (.li_u8 v.1)), (31, .pv (.typ (.l44 v.2.1))), (32, .pv (.int .i64 v.2.2.1)), (33, .pv (.int .i64 v.2.2.2))], []⟩ (nrmK UX (record_Encode_cfg k) 12 K) = record_Encode_l12 k (fun b4 => K (.exit 2) ⟨[(4, .own (.li_u8 b4))], []⟩) n v.1 v.2.1 v.2.2.1 v.2.2.2 :=
  iter_rec (X := UX) (fun v => ⟨[(4, .own (.li_u8 v.1)), (31, .pv (.typ (.l44 v.2.1))), (32, .pv (.int .i64 v.2.2.1)), (33, .pv (.int .i64 v.2.2.2))], []⟩) (fun rec v => record_Encode_l12_b k (fun b4 => K (.exit 2) ⟨[(4, .own (.li_u8 b4))], []⟩) (fun b4 t31 t32 t33 => rec (b4, t31, t32, t33)) v.1 v.2.1 v.2.2.1 v.2.2.2) (fun n v => record_Encode_l12 k (fun b4 => K (.exit 2) ⟨[(4, .own (.li_u8 b4))], []⟩) n v.1 v.2.1 v.2.2.1 v.2.2.2) (fun n v => by kernel_rfl) (fun _ => rfl) (fun _ _ => rfl)
theorem record_Encode_l12_ok1 {ρ : Type} (k : Nat) : IterOK UX (record_Encode_cfg (ρ := ρ) k) (record_Encode_G k) (record_Encode_L.getD 1 .skip) 12 (record_Encode_l12_s k) := by
  intro s K r h
  obtain ⟨env, hp⟩ := s
  unfold record_Encode_l12_s at h
  replace h := popS_inv h; obtain ⟨v1, e2, rfl, h⟩ := h
  replace h := asO_li_u8_inv h; obtain ⟨b4, rfl, h⟩ := h
  replace h := popS_inv h; obtain ⟨v3, e4, rfl, h⟩ := h
  replace h := as_l44_inv h; obtain ⟨t31, rfl, h⟩ := h
  replace h := popS_inv h; obtain ⟨v5, e6, rfl, h⟩ := h
  replace h := asI_inv h; obtain ⟨t32, rfl, h⟩ := h
  replace h := popS_inv h; obtain ⟨v7, e8, rfl, h⟩ := h
  replace h := asI_inv h; obtain ⟨t33, rfl, h⟩ := h
  replace h := popN_inv h; obtain ⟨rfl, h⟩ := h
  replace h := popN_inv h; obtain ⟨rfl, h⟩ := h
  exact ⟨k, (record_Encode_l12_eq1 k K k (b4, t31, t32, t33)).trans h⟩
theorem record_Encode_cok {ρ : Type} (k : Nat) : COK (record_Encode_cfg (ρ := ρ) k) (record_Encode_G k) record_Encode_code :=
  cok_of (tl := [(7, record_Encode_l7_s k), (12, record_Encode_l12_s k)]) (tj := []) (tb := []) rfl rfl rfl (all_nth 2 (by kernel_rfl) ⟨iter_case (by kernel_rfl) rfl (record_Encode_l12_ok1 k), iter_case (by kernel_rfl) rfl (record_Encode_l7_ok0 k), trivial⟩) (nil_all (by kernel_rfl)) (fun p hp => by cases hp)
noncomputable def record_Encode_enc (r : (List Int) × Int) : AV UU := .pv (.tup [.typ (.li_u8 r.1), .int .i64 r.2])
noncomputable def record_Encode_dec (v : AV UU) (_ : List (List (AV UU))) : Option ((List Int) × Int) :=
asT v fun q1 =>
popA q1 fun p2 q3 =>
as_li_u8 (.pv p2) fun r0 =>
popA q3 fun p4 q5 =>
asI .i64 (.pv p4) fun r1 =>
popN q5 <|
some (r0, r1)
theorem record_Encode_dec_enc (v : AV UU) (b : List (List (AV UU))) (r : (List Int) × Int) (h : record_Encode_dec v b = some r) : v = record_Encode_enc r := by
  unfold record_Encode_dec at h
  replace h := asT_inv h; obtain ⟨q1, rfl, h⟩ := h
  replace h := popA_inv h; obtain ⟨p2, q3, rfl, h⟩ := h
  replace h := as_li_u8_inv h; obtain ⟨r0, e, h⟩ := h; cases e
  replace h := popA_inv h; obtain ⟨p4, q5, rfl, h⟩ := h
  replace h := asI_inv h; obtain ⟨r1, e, h⟩ := h; cases e
  replace h := popN_inv h; obtain ⟨rfl, h⟩ := h
  cases h
  rfl
theorem record_Encode_eq (k : Nat) (l0 : List S44) : bodyK UX (record_Encode_cfg k) (record_Encode_G k) Try.f21 [.pv (.typ (.l44 l0))] [] record_Encode_dec = record_Encode k l0 := by kernel_rfl
theorem record_Encode_con (k : Nat) (l0 : List S44) (r : (List Int) × Int) (h : record_Encode k l0 = some r) : Con (X := UX) Try.prog 21 [.pv (.typ (.l44 l0))] [] (record_Encode_enc r) [] :=
  con_of_body xok tok Try.func21 record_Encode_body (record_Encode_gok k) rfl (record_Encode_cok k) (of_decide_eq_true (by kernel_rfl)) record_Encode_dec_enc ((record_Encode_eq k l0).trans h)
noncomputable def record_Encode_an {ρ : Type} (k : Nat) : An UX ρ := fun args bx K =>
popA args fun v1 a2 =>
as_l44 v1 fun l0 =>
popN a2 <|
popN bx <|
(record_Encode k l0).bind fun r => K (record_Encode_enc r) []
theorem record_Encode_ok {ρ : Type} (k : Nat) : AnsOK Try.prog 21 (record_Encode_an (ρ := ρ) k) := by
  intro args bx K r h
  unfold record_Encode_an at h
  replace h := popA_inv h; obtain ⟨v1, a2, rfl, h⟩ := h
  replace h := as_l44_inv h; obtain ⟨l0, rfl, h⟩ := h
  replace h := popN_inv h; obtain ⟨rfl, h⟩ := h
  replace h := popN_inv h; obtain ⟨rfl, h⟩ := h
  replace h := bind_inv h
  obtain ⟨x, hx, h⟩ := h
  exact ⟨there_of Try.func21 (by kernel_rfl) record_Encode_body, _, _, h, record_Encode_con k l0 x hx⟩

/-! cadastre/cadastrelaw6.num -/
noncomputable def cadastrelaw6_num_code : Code := match Try.f23.body with | some c => c | none => .skip
theorem cadastrelaw6_num_body : Try.f23.body = some cadastrelaw6_num_code := by kernel_rfl
noncomputable def cadastrelaw6_num_G {ρ : Type} (k : Nat) : Ans UX ρ := gnil
theorem cadastrelaw6_num_gok {ρ : Type} (k : Nat) : GOK Try.prog (cadastrelaw6_num_G (ρ := ρ) k) := gok_nil
noncomputable def cadastrelaw6_num_cfg {ρ : Type} (k : Nat) : Cfg UX ρ where
  live i := (assoc [(0, [0]), (1, [0])] i).getD []
  boxes i := (assoc [(0, []), (1, [])] i).getD []
  tk i := (assoc [] i).getD []
  n := 4
  labelR l := (assoc [] l).getD 0
  loops := assoc []
  labels := assoc []
  joins := assoc []
  xl i e := match e with
    | .nxt => assoc [] i
    | .ret => assoc [] i
    | .exit j => (assoc [] i).bind fun l => assoc l j
    | .goto j => (assoc [] i).bind fun l => assoc l j
noncomputable def cadastrelaw6_num_L : List Code := selI [] (loopsOf cadastrelaw6_num_code)
noncomputable def cadastrelaw6_num_J : List Code := selI [] (joinsOf cadastrelaw6_num_code)
noncomputable def cadastrelaw6_num_S : List Code := scopesOf cadastrelaw6_num_code
theorem cadastrelaw6_num_cok {ρ : Type} (k : Nat) : COK (cadastrelaw6_num_cfg (ρ := ρ) k) (cadastrelaw6_num_G k) cadastrelaw6_num_code :=
  cok_of (tl := []) (tj := []) (tb := []) rfl rfl rfl (nil_all (by kernel_rfl)) (nil_all (by kernel_rfl)) (fun p hp => by cases hp)
noncomputable def cadastrelaw6_num_enc (r : Int) : AV UU := .pv (.int .i64 r)
noncomputable def cadastrelaw6_num_dec (v : AV UU) (_ : List (List (AV UU))) : Option Int :=
asI .i64 v fun r0 =>
some r0
theorem cadastrelaw6_num_dec_enc (v : AV UU) (b : List (List (AV UU))) (r : Int) (h : cadastrelaw6_num_dec v b = some r) : v = cadastrelaw6_num_enc r := by
  unfold cadastrelaw6_num_dec at h
  replace h := asI_inv h; obtain ⟨r0, rfl, h⟩ := h
  cases h
  rfl
theorem cadastrelaw6_num_eq (k : Nat) (e0 : Int) : bodyK UX (cadastrelaw6_num_cfg k) (cadastrelaw6_num_G k) Try.f23 [.pv (.int .i64 e0)] [] cadastrelaw6_num_dec = cadastrelaw6_num k e0 := by kernel_rfl
theorem cadastrelaw6_num_con (k : Nat) (e0 : Int) (r : Int) (h : cadastrelaw6_num k e0 = some r) : Con (X := UX) Try.prog 23 [.pv (.int .i64 e0)] [] (cadastrelaw6_num_enc r) [] :=
  con_of_body xok tok Try.func23 cadastrelaw6_num_body (cadastrelaw6_num_gok k) rfl (cadastrelaw6_num_cok k) (of_decide_eq_true (by kernel_rfl)) cadastrelaw6_num_dec_enc ((cadastrelaw6_num_eq k e0).trans h)
noncomputable def cadastrelaw6_num_an {ρ : Type} (k : Nat) : An UX ρ := fun args bx K =>
popA args fun v1 a2 =>
asI .i64 v1 fun e0 =>
popN a2 <|
popN bx <|
(cadastrelaw6_num k e0).bind fun r => K (cadastrelaw6_num_enc r) []
theorem cadastrelaw6_num_ok {ρ : Type} (k : Nat) : AnsOK Try.prog 23 (cadastrelaw6_num_an (ρ := ρ) k) := by
  intro args bx K r h
  unfold cadastrelaw6_num_an at h
  replace h := popA_inv h; obtain ⟨v1, a2, rfl, h⟩ := h
  replace h := asI_inv h; obtain ⟨e0, rfl, h⟩ := h
  replace h := popN_inv h; obtain ⟨rfl, h⟩ := h
  replace h := popN_inv h; obtain ⟨rfl, h⟩ := h
  replace h := bind_inv h
  obtain ⟨x, hx, h⟩ := h
  exact ⟨there_of Try.func23 (by kernel_rfl) cadastrelaw6_num_body, _, _, h, cadastrelaw6_num_con k e0 x hx⟩

/-! cadastre/cadastreref0.EqBytes -/
noncomputable def cadastreref0_EqBytes_code : Code := match Try.f24.body with | some c => c | none => .skip
theorem cadastreref0_EqBytes_body : Try.f24.body = some cadastreref0_EqBytes_code := by kernel_rfl
noncomputable def cadastreref0_EqBytes_G {ρ : Type} (k : Nat) : Ans UX ρ := gnil
theorem cadastreref0_EqBytes_gok {ρ : Type} (k : Nat) : GOK Try.prog (cadastreref0_EqBytes_G (ρ := ρ) k) := gok_nil
noncomputable def cadastreref0_EqBytes_l4_s {ρ : Type} (k : Nat) : Run UX ρ := fun s K =>
popS 0 s.env fun v1 e2 =>
as_li_u8 v1 fun a0 =>
popS 1 e2 fun v3 e4 =>
as_li_u8 v3 fun b1 =>
popS 5 e4 fun v5 e6 =>
asI .i64 v5 fun i5 =>
popN e6 <|
popN s.hp <|
cadastreref0_EqBytes_l4 k (fun t4 => K .ret ⟨[(4, .pv (.bool t4))], []⟩) (K (.exit 0) ⟨[], []⟩) k a0 b1 i5
noncomputable def cadastreref0_EqBytes_cfg {ρ : Type} (k : Nat) : Cfg UX ρ where
  live i := (assoc [(0, [0, 1]), (1, [0, 1]), (2, []), (3, [0, 1]), (4, [0, 1, 5]), (5, [0, 1, 5]), (6, [0, 1, 5]), (7, []), (8, [])] i).getD []
  boxes i := (assoc [(0, []), (1, []), (2, []), (3, []), (4, []), (5, []), (6, []), (7, []), (8, [])] i).getD []
  tk i := (assoc [] i).getD []
  n := 26
  labelR l := (assoc [] l).getD 0
  loops := assoc [(4, cadastreref0_EqBytes_l4_s k)]
  labels := assoc []
  joins := assoc []
  xl i e := match e with
    | .nxt => assoc [] i
    | .ret => assoc [(4, ([4], []))] i
    | .exit j => (assoc [(4, [(0, ([], []))])] i).bind fun l => assoc l j
    | .goto j => (assoc [] i).bind fun l => assoc l j
noncomputable def cadastreref0_EqBytes_L : List Code := selI [4] (loopsOf cadastreref0_EqBytes_code)
noncomputable def cadastreref0_EqBytes_J : List Code := selI [] (joinsOf cadastreref0_EqBytes_code)
noncomputable def cadastreref0_EqBytes_S : List Code := scopesOf cadastreref0_EqBytes_code
theorem cadastreref0_EqBytes_l4_eq0 {ρ : Type} (k : Nat) (K : Ex → St UU → Option ρ) : ∀ (n : Nat) (v : (List Int) × (List Int) × Int), iterK UX (fun s => s.at (cadastreref0_EqBytes_cfg (ρ := ρ) k).live (cadastreref0_EqBytes_cfg (ρ := ρ) k).boxes (some 4)) (exec UX (cadastreref0_EqBytes_cfg k) (cadastreref0_EqBytes_G k) (cadastreref0_EqBytes_L.getD 0 .skip)) n ⟨[(0, .pv (.typ (.li_u8 v.1))), (1, .pv (.typ (.li_u8 v.2.1))), (5, .pv (.int .i64 v.2.2))], []⟩ (nrmK UX (cadastreref0_EqBytes_cfg k) 4 K) = cadastreref0_EqBytes_l4 k (fun t4 => K .ret ⟨[(4, .pv (.bool t4))], []⟩) (K (.exit 0) ⟨[], []⟩) n v.1 v.2.1 v.2.2 :=
  iter_rec (X := UX) (fun v => ⟨[(0, .pv (.typ (.li_u8 v.1))), (1, .pv (.typ (.li_u8 v.2.1))), (5, .pv (.int .i64 v.2.2))], []⟩) (fun rec v => cadastreref0_EqBytes_l4_b k (fun t4 => K .ret ⟨[(4, .pv (.bool t4))], []⟩) (K (.exit 0) ⟨[], []⟩) (fun a0 b1 i5 => rec (a0, b1, i5)) v.1 v.2.1 v.2.2) (fun n v => cadastreref0_EqBytes_l4 k (fun t4 => K .ret ⟨[(4, .pv (.bool t4))], []⟩) (K (.exit 0) ⟨[], []⟩) n v.1 v.2.1 v.2.2) (fun n v => by kernel_rfl) (fun _ => rfl) (fun _ _ => rfl)
theorem cadastreref0_EqBytes_l4_ok0 {ρ : Type} (k : Nat) : IterOK UX (cadastreref0_EqBytes_cfg (ρ := ρ) k) (cadastreref0_EqBytes_G k) (cadastreref0_EqBytes_L.getD 0 .skip) 4 (cadastreref0_EqBytes_l4_s k) := by
  intro s K r h
  obtain ⟨env, hp⟩ := s
  unfold cadastreref0_EqBytes_l4_s at h
  replace h := popS_inv h; obtain ⟨v1, e2, rfl, h⟩ := h
  replace h := as_li_u8_inv h; obtain ⟨a0, rfl, h⟩ := h
  replace h := popS_inv h; obtain ⟨v3, e4, rfl, h⟩ := h
  replace h := as_li_u8_inv h; obtain ⟨b1, rfl, h⟩ := h
  replace h := popS_inv h; obtain ⟨v5, e6, rfl, h⟩ := h
  replace h := asI_inv h; obtain ⟨i5, rfl, h⟩ := h
  replace h := popN_inv h; obtain ⟨rfl, h⟩ := h
  replace h := popN_inv h; obtain ⟨rfl, h⟩ := h
  exact ⟨k, (cadastreref0_EqBytes_l4_eq0 k K k (a0, b1, i5)).trans h⟩
theorem cadastreref0_EqBytes_cok {ρ : Type} (k : Nat) : COK (cadastreref0_EqBytes_cfg (ρ := ρ) k) (cadastreref0_EqBytes_G k) cadastreref0_EqBytes_code :=
  cok_of (tl := [(4, cadastreref0_EqBytes_l4_s k)]) (tj := []) (tb := []) rfl rfl rfl (all_nth 1 (by kernel_rfl) ⟨iter_case (by kernel_rfl) rfl (cadastreref0_EqBytes_l4_ok0 k), trivial⟩) (nil_all (by kernel_rfl)) (fun p hp => by cases hp)
noncomputable def cadastreref0_EqBytes_enc (r : Bool) : AV UU := .pv (.bool r)
noncomputable def cadastreref0_EqBytes_dec (v : AV UU) (_ : List (List (AV UU))) : Option Bool :=
asB v fun r0 =>
some r0
theorem cadastreref0_EqBytes_dec_enc (v : AV UU) (b : List (List (AV UU))) (r : Bool) (h : cadastreref0_EqBytes_dec v b = some r) : v = cadastreref0_EqBytes_enc r := by
  unfold cadastreref0_EqBytes_dec at h
  replace h := asB_inv h; obtain ⟨r0, rfl, h⟩ := h
  cases h
  rfl
theorem cadastreref0_EqBytes_eq (k : Nat) (a0 : List Int) (b1 : List Int) : bodyK UX (cadastreref0_EqBytes_cfg k) (cadastreref0_EqBytes_G k) Try.f24 [.pv (.typ (.li_u8 a0)), .pv (.typ (.li_u8 b1))] [] cadastreref0_EqBytes_dec = cadastreref0_EqBytes k a0 b1 := by kernel_rfl
theorem cadastreref0_EqBytes_con (k : Nat) (a0 : List Int) (b1 : List Int) (r : Bool) (h : cadastreref0_EqBytes k a0 b1 = some r) : Con (X := UX) Try.prog 24 [.pv (.typ (.li_u8 a0)), .pv (.typ (.li_u8 b1))] [] (cadastreref0_EqBytes_enc r) [] :=
  con_of_body xok tok Try.func24 cadastreref0_EqBytes_body (cadastreref0_EqBytes_gok k) rfl (cadastreref0_EqBytes_cok k) (of_decide_eq_true (by kernel_rfl)) cadastreref0_EqBytes_dec_enc ((cadastreref0_EqBytes_eq k a0 b1).trans h)
noncomputable def cadastreref0_EqBytes_an {ρ : Type} (k : Nat) : An UX ρ := fun args bx K =>
popA args fun v1 a2 =>
as_li_u8 v1 fun a0 =>
popA a2 fun v3 a4 =>
as_li_u8 v3 fun b1 =>
popN a4 <|
popN bx <|
(cadastreref0_EqBytes k a0 b1).bind fun r => K (cadastreref0_EqBytes_enc r) []
theorem cadastreref0_EqBytes_ok {ρ : Type} (k : Nat) : AnsOK Try.prog 24 (cadastreref0_EqBytes_an (ρ := ρ) k) := by
  intro args bx K r h
  unfold cadastreref0_EqBytes_an at h
  replace h := popA_inv h; obtain ⟨v1, a2, rfl, h⟩ := h
  replace h := as_li_u8_inv h; obtain ⟨a0, rfl, h⟩ := h
  replace h := popA_inv h; obtain ⟨v3, a4, rfl, h⟩ := h
  replace h := as_li_u8_inv h; obtain ⟨b1, rfl, h⟩ := h
  replace h := popN_inv h; obtain ⟨rfl, h⟩ := h
  replace h := popN_inv h; obtain ⟨rfl, h⟩ := h
  replace h := bind_inv h
  obtain ⟨x, hx, h⟩ := h
  exact ⟨there_of Try.func24 (by kernel_rfl) cadastreref0_EqBytes_body, _, _, h, cadastreref0_EqBytes_con k a0 b1 x hx⟩

/-! cadastre/cadastreref0.EqValues -/
noncomputable def cadastreref0_EqValues_code : Code := match Try.f45.body with | some c => c | none => .skip
theorem cadastreref0_EqValues_body : Try.f45.body = some cadastreref0_EqValues_code := by kernel_rfl
noncomputable def cadastreref0_EqValues_G {ρ : Type} (k : Nat) : Ans UX ρ := gnil
theorem cadastreref0_EqValues_gok {ρ : Type} (k : Nat) : GOK Try.prog (cadastreref0_EqValues_G (ρ := ρ) k) := gok_nil
noncomputable def cadastreref0_EqValues_l4_s {ρ : Type} (k : Nat) : Run UX ρ := fun s K =>
popS 0 s.env fun v1 e2 =>
as_l44 v1 fun a0 =>
popS 1 e2 fun v3 e4 =>
as_l44 v3 fun b1 =>
popS 5 e4 fun v5 e6 =>
asI .i64 v5 fun i5 =>
popN e6 <|
popN s.hp <|
cadastreref0_EqValues_l4 k (fun t4 => K .ret ⟨[(4, .pv (.bool t4))], []⟩) (K (.exit 0) ⟨[], []⟩) k a0 b1 i5
noncomputable def cadastreref0_EqValues_cfg {ρ : Type} (k : Nat) : Cfg UX ρ where
  live i := (assoc [(0, [0, 1]), (1, [0, 1]), (2, []), (3, [0, 1]), (4, [0, 1, 5]), (5, [0, 1, 5]), (6, [0, 1, 5]), (7, []), (8, [])] i).getD []
  boxes i := (assoc [(0, []), (1, []), (2, []), (3, []), (4, []), (5, []), (6, []), (7, []), (8, [])] i).getD []
  tk i := (assoc [] i).getD []
  n := 26
  labelR l := (assoc [] l).getD 0
  loops := assoc [(4, cadastreref0_EqValues_l4_s k)]
  labels := assoc []
  joins := assoc []
  xl i e := match e with
    | .nxt => assoc [] i
    | .ret => assoc [(4, ([4], []))] i
    | .exit j => (assoc [(4, [(0, ([], []))])] i).bind fun l => assoc l j
    | .goto j => (assoc [] i).bind fun l => assoc l j
noncomputable def cadastreref0_EqValues_L : List Code := selI [4] (loopsOf cadastreref0_EqValues_code)
noncomputable def cadastreref0_EqValues_J : List Code := selI [] (joinsOf cadastreref0_EqValues_code)
noncomputable def cadastreref0_EqValues_S : List Code := scopesOf cadastreref0_EqValues_code
theorem cadastreref0_EqValues_l4_eq0 {ρ : Type} (k : Nat) (K : Ex → St UU → Option ρ) : ∀ (n : Nat) (v : (List S44) × (List S44) × Int), iterK UX (fun s => s.at (cadastreref0_EqValues_cfg (ρ := ρ) k).live (cadastreref0_EqValues_cfg (ρ := ρ) k).boxes (some 4)) (exec UX (cadastreref0_EqValues_cfg k) (cadastreref0_EqValues_G k) (cadastreref0_EqValues_L.getD 0 .skip)) n ⟨[(0, .pv (.typ (.l44 v.1))), (1, .pv (.typ (.l44 v.2.1))), (5, .pv (.int .i64 v.2.2))], []⟩ (nrmK UX (cadastreref0_EqValues_cfg k) 4 K) = cadastreref0_EqValues_l4 k (fun t4 => K .ret ⟨[(4, .pv (.bool t4))], []⟩) (K (.exit 0) ⟨[], []⟩) n v.1 v.2.1 v.2.2 :=
  iter_rec (X := UX) (fun v => ⟨[(0, .pv (.typ (.l44 v.1))), (1, .pv (.typ (.l44 v.2.1))), (5, .pv (.int .i64 v.2.2))], []⟩) (fun rec v => cadastreref0_EqValues_l4_b k (fun t4 => K .ret ⟨[(4, .pv (.bool t4))], []⟩) (K (.exit 0) ⟨[], []⟩) (fun a0 b1 i5 => rec (a0, b1, i5)) v.1 v.2.1 v.2.2) (fun n v => cadastreref0_EqValues_l4 k (fun t4 => K .ret ⟨[(4, .pv (.bool t4))], []⟩) (K (.exit 0) ⟨[], []⟩) n v.1 v.2.1 v.2.2) (fun n v => by kernel_rfl) (fun _ => rfl) (fun _ _ => rfl)
theorem cadastreref0_EqValues_l4_ok0 {ρ : Type} (k : Nat) : IterOK UX (cadastreref0_EqValues_cfg (ρ := ρ) k) (cadastreref0_EqValues_G k) (cadastreref0_EqValues_L.getD 0 .skip) 4 (cadastreref0_EqValues_l4_s k) := by
  intro s K r h
  obtain ⟨env, hp⟩ := s
  unfold cadastreref0_EqValues_l4_s at h
  replace h := popS_inv h; obtain ⟨v1, e2, rfl, h⟩ := h
  replace h := as_l44_inv h; obtain ⟨a0, rfl, h⟩ := h
  replace h := popS_inv h; obtain ⟨v3, e4, rfl, h⟩ := h
  replace h := as_l44_inv h; obtain ⟨b1, rfl, h⟩ := h
  replace h := popS_inv h; obtain ⟨v5, e6, rfl, h⟩ := h
  replace h := asI_inv h; obtain ⟨i5, rfl, h⟩ := h
  replace h := popN_inv h; obtain ⟨rfl, h⟩ := h
  replace h := popN_inv h; obtain ⟨rfl, h⟩ := h
  exact ⟨k, (cadastreref0_EqValues_l4_eq0 k K k (a0, b1, i5)).trans h⟩
theorem cadastreref0_EqValues_cok {ρ : Type} (k : Nat) : COK (cadastreref0_EqValues_cfg (ρ := ρ) k) (cadastreref0_EqValues_G k) cadastreref0_EqValues_code :=
  cok_of (tl := [(4, cadastreref0_EqValues_l4_s k)]) (tj := []) (tb := []) rfl rfl rfl (all_nth 1 (by kernel_rfl) ⟨iter_case (by kernel_rfl) rfl (cadastreref0_EqValues_l4_ok0 k), trivial⟩) (nil_all (by kernel_rfl)) (fun p hp => by cases hp)
noncomputable def cadastreref0_EqValues_enc (r : Bool) : AV UU := .pv (.bool r)
noncomputable def cadastreref0_EqValues_dec (v : AV UU) (_ : List (List (AV UU))) : Option Bool :=
asB v fun r0 =>
some r0
theorem cadastreref0_EqValues_dec_enc (v : AV UU) (b : List (List (AV UU))) (r : Bool) (h : cadastreref0_EqValues_dec v b = some r) : v = cadastreref0_EqValues_enc r := by
  unfold cadastreref0_EqValues_dec at h
  replace h := asB_inv h; obtain ⟨r0, rfl, h⟩ := h
  cases h
  rfl
theorem cadastreref0_EqValues_eq (k : Nat) (a0 : List S44) (b1 : List S44) : bodyK UX (cadastreref0_EqValues_cfg k) (cadastreref0_EqValues_G k) Try.f45 [.pv (.typ (.l44 a0)), .pv (.typ (.l44 b1))] [] cadastreref0_EqValues_dec = cadastreref0_EqValues k a0 b1 := by kernel_rfl
theorem cadastreref0_EqValues_con (k : Nat) (a0 : List S44) (b1 : List S44) (r : Bool) (h : cadastreref0_EqValues k a0 b1 = some r) : Con (X := UX) Try.prog 45 [.pv (.typ (.l44 a0)), .pv (.typ (.l44 b1))] [] (cadastreref0_EqValues_enc r) [] :=
  con_of_body xok tok Try.func45 cadastreref0_EqValues_body (cadastreref0_EqValues_gok k) rfl (cadastreref0_EqValues_cok k) (of_decide_eq_true (by kernel_rfl)) cadastreref0_EqValues_dec_enc ((cadastreref0_EqValues_eq k a0 b1).trans h)
noncomputable def cadastreref0_EqValues_an {ρ : Type} (k : Nat) : An UX ρ := fun args bx K =>
popA args fun v1 a2 =>
as_l44 v1 fun a0 =>
popA a2 fun v3 a4 =>
as_l44 v3 fun b1 =>
popN a4 <|
popN bx <|
(cadastreref0_EqValues k a0 b1).bind fun r => K (cadastreref0_EqValues_enc r) []
theorem cadastreref0_EqValues_ok {ρ : Type} (k : Nat) : AnsOK Try.prog 45 (cadastreref0_EqValues_an (ρ := ρ) k) := by
  intro args bx K r h
  unfold cadastreref0_EqValues_an at h
  replace h := popA_inv h; obtain ⟨v1, a2, rfl, h⟩ := h
  replace h := as_l44_inv h; obtain ⟨a0, rfl, h⟩ := h
  replace h := popA_inv h; obtain ⟨v3, a4, rfl, h⟩ := h
  replace h := as_l44_inv h; obtain ⟨b1, rfl, h⟩ := h
  replace h := popN_inv h; obtain ⟨rfl, h⟩ := h
  replace h := popN_inv h; obtain ⟨rfl, h⟩ := h
  replace h := bind_inv h
  obtain ⟨x, hx, h⟩ := h
  exact ⟨there_of Try.func45 (by kernel_rfl) cadastreref0_EqValues_body, _, _, h, cadastreref0_EqValues_con k a0 b1 x hx⟩

/-! cadastre/cadastreref1.same -/
noncomputable def cadastreref1_same_code : Code := match Try.f76.body with | some c => c | none => .skip
theorem cadastreref1_same_body : Try.f76.body = some cadastreref1_same_code := by kernel_rfl
noncomputable def cadastreref1_same_G {ρ : Type} (k : Nat) : Ans UX ρ := gnil
theorem cadastreref1_same_gok {ρ : Type} (k : Nat) : GOK Try.prog (cadastreref1_same_G (ρ := ρ) k) := gok_nil
noncomputable def cadastreref1_same_l4_s {ρ : Type} (k : Nat) : Run UX ρ := fun s K =>
popS 0 s.env fun v1 e2 =>
as_li_u8 v1 fun a0 =>
popS 1 e2 fun v3 e4 =>
as_li_u8 v3 fun b1 =>
popS 5 e4 fun v5 e6 =>
asI .i64 v5 fun i5 =>
popN e6 <|
popN s.hp <|
cadastreref1_same_l4 k (fun t4 => K .ret ⟨[(4, .pv (.bool t4))], []⟩) (K (.exit 0) ⟨[], []⟩) k a0 b1 i5
noncomputable def cadastreref1_same_cfg {ρ : Type} (k : Nat) : Cfg UX ρ where
  live i := (assoc [(0, [0, 1]), (1, [0, 1]), (2, []), (3, [0, 1]), (4, [0, 1, 5]), (5, [0, 1, 5]), (6, [0, 1, 5]), (7, []), (8, [])] i).getD []
  boxes i := (assoc [(0, []), (1, []), (2, []), (3, []), (4, []), (5, []), (6, []), (7, []), (8, [])] i).getD []
  tk i := (assoc [] i).getD []
  n := 26
  labelR l := (assoc [] l).getD 0
  loops := assoc [(4, cadastreref1_same_l4_s k)]
  labels := assoc []
  joins := assoc []
  xl i e := match e with
    | .nxt => assoc [] i
    | .ret => assoc [(4, ([4], []))] i
    | .exit j => (assoc [(4, [(0, ([], []))])] i).bind fun l => assoc l j
    | .goto j => (assoc [] i).bind fun l => assoc l j
noncomputable def cadastreref1_same_L : List Code := selI [4] (loopsOf cadastreref1_same_code)
noncomputable def cadastreref1_same_J : List Code := selI [] (joinsOf cadastreref1_same_code)
noncomputable def cadastreref1_same_S : List Code := scopesOf cadastreref1_same_code
theorem cadastreref1_same_l4_eq0 {ρ : Type} (k : Nat) (K : Ex → St UU → Option ρ) : ∀ (n : Nat) (v : (List Int) × (List Int) × Int), iterK UX (fun s => s.at (cadastreref1_same_cfg (ρ := ρ) k).live (cadastreref1_same_cfg (ρ := ρ) k).boxes (some 4)) (exec UX (cadastreref1_same_cfg k) (cadastreref1_same_G k) (cadastreref1_same_L.getD 0 .skip)) n ⟨[(0, .pv (.typ (.li_u8 v.1))), (1, .pv (.typ (.li_u8 v.2.1))), (5, .pv (.int .i64 v.2.2))], []⟩ (nrmK UX (cadastreref1_same_cfg k) 4 K) = cadastreref1_same_l4 k (fun t4 => K .ret ⟨[(4, .pv (.bool t4))], []⟩) (K (.exit 0) ⟨[], []⟩) n v.1 v.2.1 v.2.2 :=
  iter_rec (X := UX) (fun v => ⟨[(0, .pv (.typ (.li_u8 v.1))), (1, .pv (.typ (.li_u8 v.2.1))), (5, .pv (.int .i64 v.2.2))], []⟩) (fun rec v => cadastreref1_same_l4_b k (fun t4 => K .ret ⟨[(4, .pv (.bool t4))], []⟩) (K (.exit 0) ⟨[], []⟩) (fun a0 b1 i5 => rec (a0, b1, i5)) v.1 v.2.1 v.2.2) (fun n v => cadastreref1_same_l4 k (fun t4 => K .ret ⟨[(4, .pv (.bool t4))], []⟩) (K (.exit 0) ⟨[], []⟩) n v.1 v.2.1 v.2.2) (fun n v => by kernel_rfl) (fun _ => rfl) (fun _ _ => rfl)
theorem cadastreref1_same_l4_ok0 {ρ : Type} (k : Nat) : IterOK UX (cadastreref1_same_cfg (ρ := ρ) k) (cadastreref1_same_G k) (cadastreref1_same_L.getD 0 .skip) 4 (cadastreref1_same_l4_s k) := by
  intro s K r h
  obtain ⟨env, hp⟩ := s
  unfold cadastreref1_same_l4_s at h
  replace h := popS_inv h; obtain ⟨v1, e2, rfl, h⟩ := h
  replace h := as_li_u8_inv h; obtain ⟨a0, rfl, h⟩ := h
  replace h := popS_inv h; obtain ⟨v3, e4, rfl, h⟩ := h
  replace h := as_li_u8_inv h; obtain ⟨b1, rfl, h⟩ := h
  replace h := popS_inv h; obtain ⟨v5, e6, rfl, h⟩ := h
  replace h := asI_inv h; obtain ⟨i5, rfl, h⟩ := h
  replace h := popN_inv h; obtain ⟨rfl, h⟩ := h
  replace h := popN_inv h; obtain ⟨rfl, h⟩ := h
  exact ⟨k, (cadastreref1_same_l4_eq0 k K k (a0, b1, i5)).trans h⟩
theorem cadastreref1_same_cok {ρ : Type} (k : Nat) : COK (cadastreref1_same_cfg (ρ := ρ) k) (cadastreref1_same_G k) cadastreref1_same_code :=
  cok_of (tl := [(4, cadastreref1_same_l4_s k)]) (tj := []) (tb := []) rfl rfl rfl (all_nth 1 (by kernel_rfl) ⟨iter_case (by kernel_rfl) rfl (cadastreref1_same_l4_ok0 k), trivial⟩) (nil_all (by kernel_rfl)) (fun p hp => by cases hp)
noncomputable def cadastreref1_same_enc (r : Bool) : AV UU := .pv (.bool r)
noncomputable def cadastreref1_same_dec (v : AV UU) (_ : List (List (AV UU))) : Option Bool :=
asB v fun r0 =>
some r0
theorem cadastreref1_same_dec_enc (v : AV UU) (b : List (List (AV UU))) (r : Bool) (h : cadastreref1_same_dec v b = some r) : v = cadastreref1_same_enc r := by
  unfold cadastreref1_same_dec at h
  replace h := asB_inv h; obtain ⟨r0, rfl, h⟩ := h
  cases h
  rfl
theorem cadastreref1_same_eq (k : Nat) (a0 : List Int) (b1 : List Int) : bodyK UX (cadastreref1_same_cfg k) (cadastreref1_same_G k) Try.f76 [.pv (.typ (.li_u8 a0)), .pv (.typ (.li_u8 b1))] [] cadastreref1_same_dec = cadastreref1_same k a0 b1 := by kernel_rfl
theorem cadastreref1_same_con (k : Nat) (a0 : List Int) (b1 : List Int) (r : Bool) (h : cadastreref1_same k a0 b1 = some r) : Con (X := UX) Try.prog 76 [.pv (.typ (.li_u8 a0)), .pv (.typ (.li_u8 b1))] [] (cadastreref1_same_enc r) [] :=
  con_of_body xok tok Try.func76 cadastreref1_same_body (cadastreref1_same_gok k) rfl (cadastreref1_same_cok k) (of_decide_eq_true (by kernel_rfl)) cadastreref1_same_dec_enc ((cadastreref1_same_eq k a0 b1).trans h)
noncomputable def cadastreref1_same_an {ρ : Type} (k : Nat) : An UX ρ := fun args bx K =>
popA args fun v1 a2 =>
as_li_u8 v1 fun a0 =>
popA a2 fun v3 a4 =>
as_li_u8 v3 fun b1 =>
popN a4 <|
popN bx <|
(cadastreref1_same k a0 b1).bind fun r => K (cadastreref1_same_enc r) []
theorem cadastreref1_same_ok {ρ : Type} (k : Nat) : AnsOK Try.prog 76 (cadastreref1_same_an (ρ := ρ) k) := by
  intro args bx K r h
  unfold cadastreref1_same_an at h
  replace h := popA_inv h; obtain ⟨v1, a2, rfl, h⟩ := h
  replace h := as_li_u8_inv h; obtain ⟨a0, rfl, h⟩ := h
  replace h := popA_inv h; obtain ⟨v3, a4, rfl, h⟩ := h
  replace h := as_li_u8_inv h; obtain ⟨b1, rfl, h⟩ := h
  replace h := popN_inv h; obtain ⟨rfl, h⟩ := h
  replace h := popN_inv h; obtain ⟨rfl, h⟩ := h
  replace h := bind_inv h
  obtain ⟨x, hx, h⟩ := h
  exact ⟨there_of Try.func76 (by kernel_rfl) cadastreref1_same_body, _, _, h, cadastreref1_same_con k a0 b1 x hx⟩

/-! cadastre/cadastreref1.Get -/
noncomputable def cadastreref1_Get_code : Code := match Try.f58.body with | some c => c | none => .skip
theorem cadastreref1_Get_body : Try.f58.body = some cadastreref1_Get_code := by kernel_rfl
noncomputable def cadastreref1_Get_G {ρ : Type} (k : Nat) : Ans UX ρ := gk 51 (cadastreref1_Put_an k) (gk 76 (cadastreref1_same_an k) (gnil))
theorem cadastreref1_Get_gok {ρ : Type} (k : Nat) : GOK Try.prog (cadastreref1_Get_G (ρ := ρ) k) := gok_cons (cadastreref1_Put_ok k) (gok_cons (cadastreref1_same_ok k) (gok_nil))
noncomputable def cadastreref1_Get_j9_s {ρ : Type} (k : Nat) : Run UX ρ := fun s K =>
popS 0 s.env fun v1 e2 =>
as_li_u8 v1 fun b0 =>
popS 4 e2 fun v3 e4 =>
asI .u64 v3 fun n4 =>
popS 5 e4 fun v5 e6 =>
asI .i64 v5 fun i5 =>
popN e6 <|
popN s.hp <|
cadastreref1_Get_j9 k (fun t2 t3 => K .ret ⟨[(2, .pv (.int .u64 t2)), (3, .pv (.int .i64 t3))], []⟩) b0 n4 i5
noncomputable def cadastreref1_Get_j8_s {ρ : Type} (k : Nat) : Run UX ρ := fun s K =>
popS 0 s.env fun v1 e2 =>
as_li_u8 v1 fun b0 =>
popS 4 e2 fun v3 e4 =>
asI .u64 v3 fun n4 =>
popS 5 e4 fun v5 e6 =>
asI .i64 v5 fun i5 =>
popN e6 <|
popN s.hp <|
cadastreref1_Get_j8 k (fun t2 t3 => K .ret ⟨[(2, .pv (.int .u64 t2)), (3, .pv (.int .i64 t3))], []⟩) (fun b0 n4 i5 => K .nxt ⟨[(0, .pv (.typ (.li_u8 b0))), (4, .pv (.int .u64 n4)), (5, .pv (.int .i64 i5))], []⟩) b0 n4 i5
noncomputable def cadastreref1_Get_j5_s {ρ : Type} (k : Nat) : Run UX ρ := fun s K =>
popS 0 s.env fun v1 e2 =>
as_li_u8 v1 fun b0 =>
popS 4 e2 fun v3 e4 =>
asI .u64 v3 fun n4 =>
popS 5 e4 fun v5 e6 =>
asI .i64 v5 fun i5 =>
popN e6 <|
popN s.hp <|
cadastreref1_Get_j5 k (fun t2 t3 => K .ret ⟨[(2, .pv (.int .u64 t2)), (3, .pv (.int .i64 t3))], []⟩) (fun b0 n4 i5 => K .nxt ⟨[(0, .pv (.typ (.li_u8 b0))), (4, .pv (.int .u64 n4)), (5, .pv (.int .i64 i5))], []⟩) b0 n4 i5
noncomputable def cadastreref1_Get_l3_s {ρ : Type} (k : Nat) : Run UX ρ := fun s K =>
popS 0 s.env fun v1 e2 =>
as_li_u8 v1 fun b0 =>
popS 4 e2 fun v3 e4 =>
asI .u64 v3 fun n4 =>
popS 5 e4 fun v5 e6 =>
asI .i64 v5 fun i5 =>
popN e6 <|
popN s.hp <|
cadastreref1_Get_l3 k (fun t2 t3 => K .ret ⟨[(2, .pv (.int .u64 t2)), (3, .pv (.int .i64 t3))], []⟩) (K (.exit 0) ⟨[], []⟩) k b0 n4 i5
noncomputable def cadastreref1_Get_cfg {ρ : Type} (k : Nat) : Cfg UX ρ where
  live i := (assoc [(0, [0]), (1, [0]), (2, [0, 4]), (3, [0, 4, 5]), (4, [0, 4, 5]), (5, [0, 4, 5]), (6, [0, 4, 5]), (7, [0, 4, 5]), (8, [0, 4, 5]), (9, [0, 4, 5]), (10, [4, 5]), (11, []), (12, [])] i).getD []
  boxes i := (assoc [(0, []), (1, []), (2, []), (3, []), (4, []), (5, []), (6, []), (7, []), (8, []), (9, []), (10, []), (11, []), (12, [])] i).getD []
  tk i := (assoc [] i).getD []
  n := 54
  labelR l := (assoc [] l).getD 0
  loops := assoc [(3, cadastreref1_Get_l3_s k)]
  labels := assoc []
  joins := assoc [(9, cadastreref1_Get_j9_s k), (8, cadastreref1_Get_j8_s k), (5, cadastreref1_Get_j5_s k)]
  xl i e := match e with
    | .nxt => assoc [(8, ([0, 4, 5], [])), (5, ([0, 4, 5], []))] i
    | .ret => assoc [(9, ([2, 3], [])), (8, ([2, 3], [])), (5, ([2, 3], [])), (3, ([2, 3], []))] i
    | .exit j => (assoc [(3, [(0, ([], []))])] i).bind fun l => assoc l j
    | .goto j => (assoc [] i).bind fun l => assoc l j
noncomputable def cadastreref1_Get_L : List Code := selI [3] (loopsOf cadastreref1_Get_code)
noncomputable def cadastreref1_Get_J : List Code := selI [9, 8, 5] (joinsOf cadastreref1_Get_code)
noncomputable def cadastreref1_Get_S : List Code := scopesOf cadastreref1_Get_code
theorem cadastreref1_Get_l3_eq0 {ρ : Type} (k : Nat) (K : Ex → St UU → Option ρ) : ∀ (n : Nat) (v : (List Int) × Int × Int), iterK UX (fun s => s.at (cadastreref1_Get_cfg (ρ := ρ) k).live (cadastreref1_Get_cfg (ρ := ρ) k).boxes (some 3)) (exec UX (cadastreref1_Get_cfg k) (cadastreref1_Get_G k) (cadastreref1_Get_L.getD 0 .skip)) n ⟨[(0, .pv (.typ (.li_u8 v.1))), (4, .pv (.int .u64 v.2.1)), (5, .pv (.int .i64 v.2.2))], []⟩ (nrmK UX (cadastreref1_Get_cfg k) 3 K) = cadastreref1_Get_l3 k (fun t2 t3 => K .ret ⟨[(2, .pv (.int .u64 t2)), (3, .pv (.int .i64 t3))], []⟩) (K (.exit 0) ⟨[], []⟩) n v.1 v.2.1 v.2.2 :=
  iter_rec (X := UX) (fun v => ⟨[(0, .pv (.typ (.li_u8 v.1))), (4, .pv (.int .u64 v.2.1)), (5, .pv (.int .i64 v.2.2))], []⟩) (fun rec v => cadastreref1_Get_l3_b k (fun t2 t3 => K .ret ⟨[(2, .pv (.int .u64 t2)), (3, .pv (.int .i64 t3))], []⟩) (K (.exit 0) ⟨[], []⟩) (fun b0 n4 i5 => rec (b0, n4, i5)) v.1 v.2.1 v.2.2) (fun n v => cadastreref1_Get_l3 k (fun t2 t3 => K .ret ⟨[(2, .pv (.int .u64 t2)), (3, .pv (.int .i64 t3))], []⟩) (K (.exit 0) ⟨[], []⟩) n v.1 v.2.1 v.2.2) (fun n v => by kernel_rfl) (fun _ => rfl) (fun _ _ => rfl)
theorem cadastreref1_Get_l3_ok0 {ρ : Type} (k : Nat) : IterOK UX (cadastreref1_Get_cfg (ρ := ρ) k) (cadastreref1_Get_G k) (cadastreref1_Get_L.getD 0 .skip) 3 (cadastreref1_Get_l3_s k) := by
  intro s K r h
  obtain ⟨env, hp⟩ := s
  unfold cadastreref1_Get_l3_s at h
  replace h := popS_inv h; obtain ⟨v1, e2, rfl, h⟩ := h
  replace h := as_li_u8_inv h; obtain ⟨b0, rfl, h⟩ := h
  replace h := popS_inv h; obtain ⟨v3, e4, rfl, h⟩ := h
  replace h := asI_inv h; obtain ⟨n4, rfl, h⟩ := h
  replace h := popS_inv h; obtain ⟨v5, e6, rfl, h⟩ := h
  replace h := asI_inv h; obtain ⟨i5, rfl, h⟩ := h
  replace h := popN_inv h; obtain ⟨rfl, h⟩ := h
  replace h := popN_inv h; obtain ⟨rfl, h⟩ := h
  exact ⟨k, (cadastreref1_Get_l3_eq0 k K k (b0, n4, i5)).trans h⟩
theorem cadastreref1_Get_j5_eq0 {ρ : Type} (k : Nat) (K : Ex → St UU → Option ρ) (b0 : List Int) (n4 : Int) (i5 : Int) : exec UX (cadastreref1_Get_cfg k) (cadastreref1_Get_G k) (cadastreref1_Get_J.getD 0 .skip) ⟨[(0, .pv (.typ (.li_u8 b0))), (4, .pv (.int .u64 n4)), (5, .pv (.int .i64 i5))], []⟩ (nrmK UX (cadastreref1_Get_cfg k) 5 K) = cadastreref1_Get_j5 k (fun t2 t3 => K .ret ⟨[(2, .pv (.int .u64 t2)), (3, .pv (.int .i64 t3))], []⟩) (fun b0 n4 i5 => K .nxt ⟨[(0, .pv (.typ (.li_u8 b0))), (4, .pv (.int .u64 n4)), (5, .pv (.int .i64 i5))], []⟩) b0 n4 i5 := by kernel_rfl
theorem cadastreref1_Get_j5_ok0 {ρ : Type} (k : Nat) : JoinOK UX (cadastreref1_Get_cfg (ρ := ρ) k) (cadastreref1_Get_G k) (cadastreref1_Get_J.getD 0 .skip) 5 (cadastreref1_Get_j5_s k) := by
  intro s K r h
  obtain ⟨env, hp⟩ := s
  unfold cadastreref1_Get_j5_s at h
  replace h := popS_inv h; obtain ⟨v1, e2, rfl, h⟩ := h
  replace h := as_li_u8_inv h; obtain ⟨b0, rfl, h⟩ := h
  replace h := popS_inv h; obtain ⟨v3, e4, rfl, h⟩ := h
  replace h := asI_inv h; obtain ⟨n4, rfl, h⟩ := h
  replace h := popS_inv h; obtain ⟨v5, e6, rfl, h⟩ := h
  replace h := asI_inv h; obtain ⟨i5, rfl, h⟩ := h
  replace h := popN_inv h; obtain ⟨rfl, h⟩ := h
  replace h := popN_inv h; obtain ⟨rfl, h⟩ := h
  exact (cadastreref1_Get_j5_eq0 k K b0 n4 i5).trans h
theorem cadastreref1_Get_j8_eq1 {ρ : Type} (k : Nat) (K : Ex → St UU → Option ρ) (b0 : List Int) (n4 : Int) (i5 : Int) : exec UX (cadastreref1_Get_cfg k) (cadastreref1_Get_G k) (cadastreref1_Get_J.getD 1 .skip) ⟨[(0, .pv (.typ (.li_u8 b0))), (4, .pv (.int .u64 n4)), (5, .pv (.int .i64 i5))], []⟩ (nrmK UX (cadastreref1_Get_cfg k) 8 K) = cadastreref1_Get_j8 k (fun t2 t3 => K .ret ⟨[(2, .pv (.int .u64 t2)), (3, .pv (.int .i64 t3))], []⟩) (fun b0 n4 i5 => K .nxt ⟨[(0, .pv (.typ (.li_u8 b0))), (4, .pv (.int .u64 n4)), (5, .pv (.int .i64 i5))], []⟩) b0 n4 i5 := by kernel_rfl
theorem cadastreref1_Get_j8_ok1 {ρ : Type} (k : Nat) : JoinOK UX (cadastreref1_Get_cfg (ρ := ρ) k) (cadastreref1_Get_G k) (cadastreref1_Get_J.getD 1 .skip) 8 (cadastreref1_Get_j8_s k) := by
  intro s K r h
  obtain ⟨env, hp⟩ := s
  unfold cadastreref1_Get_j8_s at h
  replace h := popS_inv h; obtain ⟨v1, e2, rfl, h⟩ := h
  replace h := as_li_u8_inv h; obtain ⟨b0, rfl, h⟩ := h
  replace h := popS_inv h; obtain ⟨v3, e4, rfl, h⟩ := h
  replace h := asI_inv h; obtain ⟨n4, rfl, h⟩ := h
  replace h := popS_inv h; obtain ⟨v5, e6, rfl, h⟩ := h
  replace h := asI_inv h; obtain ⟨i5, rfl, h⟩ := h
  replace h := popN_inv h; obtain ⟨rfl, h⟩ := h
  replace h := popN_inv h; obtain ⟨rfl, h⟩ := h
  exact (cadastreref1_Get_j8_eq1 k K b0 n4 i5).trans h
theorem cadastreref1_Get_j9_eq2 {ρ : Type} (k : Nat) (K : Ex → St UU → Option ρ) (b0 : List Int) (n4 : Int) (i5 : Int) : exec UX (cadastreref1_Get_cfg k) (cadastreref1_Get_G k) (cadastreref1_Get_J.getD 2 .skip) ⟨[(0, .pv (.typ (.li_u8 b0))), (4, .pv (.int .u64 n4)), (5, .pv (.int .i64 i5))], []⟩ (nrmK UX (cadastreref1_Get_cfg k) 9 K) = cadastreref1_Get_j9 k (fun t2 t3 => K .ret ⟨[(2, .pv (.int .u64 t2)), (3, .pv (.int .i64 t3))], []⟩) b0 n4 i5 := by kernel_rfl
theorem cadastreref1_Get_j9_ok2 {ρ : Type} (k : Nat) : JoinOK UX (cadastreref1_Get_cfg (ρ := ρ) k) (cadastreref1_Get_G k) (cadastreref1_Get_J.getD 2 .skip) 9 (cadastreref1_Get_j9_s k) := by
  intro s K r h
  obtain ⟨env, hp⟩ := s
  unfold cadastreref1_Get_j9_s at h
  replace h := popS_inv h; obtain ⟨v1, e2, rfl, h⟩ := h
  replace h := as_li_u8_inv h; obtain ⟨b0, rfl, h⟩ := h
  replace h := popS_inv h; obtain ⟨v3, e4, rfl, h⟩ := h
  replace h := asI_inv h; obtain ⟨n4, rfl, h⟩ := h
  replace h := popS_inv h; obtain ⟨v5, e6, rfl, h⟩ := h
  replace h := asI_inv h; obtain ⟨i5, rfl, h⟩ := h
  replace h := popN_inv h; obtain ⟨rfl, h⟩ := h
  replace h := popN_inv h; obtain ⟨rfl, h⟩ := h
  exact (cadastreref1_Get_j9_eq2 k K b0 n4 i5).trans h
theorem cadastreref1_Get_cok {ρ : Type} (k : Nat) : COK (cadastreref1_Get_cfg (ρ := ρ) k) (cadastreref1_Get_G k) cadastreref1_Get_code :=
  cok_of (tl := [(3, cadastreref1_Get_l3_s k)]) (tj := [(9, cadastreref1_Get_j9_s k), (8, cadastreref1_Get_j8_s k), (5, cadastreref1_Get_j5_s k)]) (tb := []) rfl rfl rfl (all_nth 1 (by kernel_rfl) ⟨iter_case (by kernel_rfl) rfl (cadastreref1_Get_l3_ok0 k), trivial⟩) (all_nth 3 (by kernel_rfl) ⟨join_case (by kernel_rfl) rfl (cadastreref1_Get_j9_ok2 k), join_case (by kernel_rfl) rfl (cadastreref1_Get_j8_ok1 k), join_case (by kernel_rfl) rfl (cadastreref1_Get_j5_ok0 k), trivial⟩) (fun p hp => by cases hp)
noncomputable def cadastreref1_Get_enc (r : Int × Int) : AV UU := .pv (.tup [.int .u64 r.1, .int .i64 r.2])
noncomputable def cadastreref1_Get_dec (v : AV UU) (_ : List (List (AV UU))) : Option (Int × Int) :=
asT v fun q1 =>
popA q1 fun p2 q3 =>
asI .u64 (.pv p2) fun r0 =>
popA q3 fun p4 q5 =>
asI .i64 (.pv p4) fun r1 =>
popN q5 <|
some (r0, r1)
theorem cadastreref1_Get_dec_enc (v : AV UU) (b : List (List (AV UU))) (r : Int × Int) (h : cadastreref1_Get_dec v b = some r) : v = cadastreref1_Get_enc r := by
  unfold cadastreref1_Get_dec at h
  replace h := asT_inv h; obtain ⟨q1, rfl, h⟩ := h
  replace h := popA_inv h; obtain ⟨p2, q3, rfl, h⟩ := h
  replace h := asI_inv h; obtain ⟨r0, e, h⟩ := h; cases e
  replace h := popA_inv h; obtain ⟨p4, q5, rfl, h⟩ := h
  replace h := asI_inv h; obtain ⟨r1, e, h⟩ := h; cases e
  replace h := popN_inv h; obtain ⟨rfl, h⟩ := h
  cases h
  rfl
theorem cadastreref1_Get_eq (k : Nat) (b0 : List Int) : bodyK UX (cadastreref1_Get_cfg k) (cadastreref1_Get_G k) Try.f58 [.pv (.typ (.li_u8 b0))] [] cadastreref1_Get_dec = cadastreref1_Get k b0 := by kernel_rfl
theorem cadastreref1_Get_con (k : Nat) (b0 : List Int) (r : Int × Int) (h : cadastreref1_Get k b0 = some r) : Con (X := UX) Try.prog 58 [.pv (.typ (.li_u8 b0))] [] (cadastreref1_Get_enc r) [] :=
  con_of_body xok tok Try.func58 cadastreref1_Get_body (cadastreref1_Get_gok k) rfl (cadastreref1_Get_cok k) (of_decide_eq_true (by kernel_rfl)) cadastreref1_Get_dec_enc ((cadastreref1_Get_eq k b0).trans h)
noncomputable def cadastreref1_Get_an {ρ : Type} (k : Nat) : An UX ρ := fun args bx K =>
popA args fun v1 a2 =>
as_li_u8 v1 fun b0 =>
popN a2 <|
popN bx <|
(cadastreref1_Get k b0).bind fun r => K (cadastreref1_Get_enc r) []
theorem cadastreref1_Get_ok {ρ : Type} (k : Nat) : AnsOK Try.prog 58 (cadastreref1_Get_an (ρ := ρ) k) := by
  intro args bx K r h
  unfold cadastreref1_Get_an at h
  replace h := popA_inv h; obtain ⟨v1, a2, rfl, h⟩ := h
  replace h := as_li_u8_inv h; obtain ⟨b0, rfl, h⟩ := h
  replace h := popN_inv h; obtain ⟨rfl, h⟩ := h
  replace h := popN_inv h; obtain ⟨rfl, h⟩ := h
  replace h := bind_inv h
  obtain ⟨x, hx, h⟩ := h
  exact ⟨there_of Try.func58 (by kernel_rfl) cadastreref1_Get_body, _, _, h, cadastreref1_Get_con k b0 x hx⟩

/-! cadastre/cadastreref2.Int -/
noncomputable def cadastreref2_Int_code : Code := match Try.f99.body with | some c => c | none => .skip
theorem cadastreref2_Int_body : Try.f99.body = some cadastreref2_Int_code := by kernel_rfl
noncomputable def cadastreref2_Int_G {ρ : Type} (k : Nat) : Ans UX ρ := gnil
theorem cadastreref2_Int_gok {ρ : Type} (k : Nat) : GOK Try.prog (cadastreref2_Int_G (ρ := ρ) k) := gok_nil
noncomputable def cadastreref2_Int_cfg {ρ : Type} (k : Nat) : Cfg UX ρ where
  live i := (assoc [(0, [0]), (1, [0, 2])] i).getD []
  boxes i := (assoc [(0, []), (1, [2])] i).getD []
  tk i := (assoc [] i).getD []
  n := 5
  labelR l := (assoc [] l).getD 0
  loops := assoc []
  labels := assoc []
  joins := assoc []
  xl i e := match e with
    | .nxt => assoc [] i
    | .ret => assoc [] i
    | .exit j => (assoc [] i).bind fun l => assoc l j
    | .goto j => (assoc [] i).bind fun l => assoc l j
noncomputable def cadastreref2_Int_L : List Code := selI [] (loopsOf cadastreref2_Int_code)
noncomputable def cadastreref2_Int_J : List Code := selI [] (joinsOf cadastreref2_Int_code)
noncomputable def cadastreref2_Int_S : List Code := scopesOf cadastreref2_Int_code
theorem cadastreref2_Int_cok {ρ : Type} (k : Nat) : COK (cadastreref2_Int_cfg (ρ := ρ) k) (cadastreref2_Int_G k) cadastreref2_Int_code :=
  cok_of (tl := []) (tj := []) (tb := []) rfl rfl rfl (nil_all (by kernel_rfl)) (nil_all (by kernel_rfl)) (fun p hp => by cases hp)
noncomputable def cadastreref2_Int_enc (r : S44) : AV UU := .pv (.typ (.s44 r))
noncomputable def cadastreref2_Int_dec (v : AV UU) (_ : List (List (AV UU))) : Option S44 :=
as_s44 v fun r0 =>
some r0
theorem cadastreref2_Int_dec_enc (v : AV UU) (b : List (List (AV UU))) (r : S44) (h : cadastreref2_Int_dec v b = some r) : v = cadastreref2_Int_enc r := by
  unfold cadastreref2_Int_dec at h
  replace h := as_s44_inv h; obtain ⟨r0, rfl, h⟩ := h
  cases h
  rfl
theorem cadastreref2_Int_eq (k : Nat) (n0 : Int) : bodyK UX (cadastreref2_Int_cfg k) (cadastreref2_Int_G k) Try.f99 [.pv (.int .i64 n0)] [] cadastreref2_Int_dec = cadastreref2_Int k n0 := by kernel_rfl
theorem cadastreref2_Int_con (k : Nat) (n0 : Int) (r : S44) (h : cadastreref2_Int k n0 = some r) : Con (X := UX) Try.prog 99 [.pv (.int .i64 n0)] [] (cadastreref2_Int_enc r) [] :=
  con_of_body xok tok Try.func99 cadastreref2_Int_body (cadastreref2_Int_gok k) rfl (cadastreref2_Int_cok k) (of_decide_eq_true (by kernel_rfl)) cadastreref2_Int_dec_enc ((cadastreref2_Int_eq k n0).trans h)
noncomputable def cadastreref2_Int_an {ρ : Type} (k : Nat) : An UX ρ := fun args bx K =>
popA args fun v1 a2 =>
asI .i64 v1 fun n0 =>
popN a2 <|
popN bx <|
(cadastreref2_Int k n0).bind fun r => K (cadastreref2_Int_enc r) []
theorem cadastreref2_Int_ok {ρ : Type} (k : Nat) : AnsOK Try.prog 99 (cadastreref2_Int_an (ρ := ρ) k) := by
  intro args bx K r h
  unfold cadastreref2_Int_an at h
  replace h := popA_inv h; obtain ⟨v1, a2, rfl, h⟩ := h
  replace h := asI_inv h; obtain ⟨n0, rfl, h⟩ := h
  replace h := popN_inv h; obtain ⟨rfl, h⟩ := h
  replace h := popN_inv h; obtain ⟨rfl, h⟩ := h
  replace h := bind_inv h
  obtain ⟨x, hx, h⟩ := h
  exact ⟨there_of Try.func99 (by kernel_rfl) cadastreref2_Int_body, _, _, h, cadastreref2_Int_con k n0 x hx⟩
end Go.Proofs.Ytekjibpkkgldgaa.R
