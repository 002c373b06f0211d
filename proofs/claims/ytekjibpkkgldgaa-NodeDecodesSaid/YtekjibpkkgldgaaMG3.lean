/-
  What the program's functions answer: the printed functions' answers.
-/
import Derived.Test.YtekjibpkkgldgaaMG2
namespace Go.Proofs.Ytekjibpkkgldgaa.M
open Go Go.AX
/-! cadastre/node.Room -/
noncomputable def node_Room_code : Code := match Try.f17.body with | some c => c | none => .skip
theorem node_Room_body : Try.f17.body = some node_Room_code := by kernel_rfl
noncomputable def node_Room_G {ρ : Type} (k : Nat) : Ans UX ρ := gk 50 (varint_Put_an k) (gnil)
theorem node_Room_gok {ρ : Type} (k : Nat) : GOK Try.prog (node_Room_G (ρ := ρ) k) := gok_cons (varint_Put_ok k) (gok_nil)
noncomputable def node_Room_l3_s {ρ : Type} (k : Nat) : Run UX ρ := fun s K =>
popS 3 s.env fun v1 e2 =>
asI .i64 v1 fun n3 =>
popS 6 e2 fun v3 e4 =>
as_lli_u8 v3 fun t6 =>
popS 7 e4 fun v5 e6 =>
asI .i64 v5 fun t7 =>
popS 8 e6 fun v7 e8 =>
asI .i64 v7 fun t8 =>
popN e8 <|
popN s.hp <|
node_Room_l3 k (fun n3 => K (.exit 0) ⟨[(3, .pv (.int .i64 n3))], []⟩) k n3 t6 t7 t8
noncomputable def node_Room_cfg {ρ : Type} (k : Nat) : Cfg UX ρ where
  live i := (assoc [(0, [0]), (1, [0]), (2, [0, 3]), (3, [3, 6, 7, 8]), (4, [3, 6, 7, 8]), (5, [3, 5, 6, 7, 8]), (6, [3, 6, 7, 8]), (7, [3])] i).getD []
  boxes i := (assoc [(0, []), (1, []), (2, []), (3, []), (4, []), (5, []), (6, []), (7, [])] i).getD []
  tk i := (assoc [] i).getD []
  n := 25
  labelR l := (assoc [] l).getD 0
  loops := assoc [(3, node_Room_l3_s k)]
  labels := assoc []
  joins := assoc []
  xl i e := match e with
    | .nxt => assoc [] i
    | .ret => assoc [] i
    | .exit j => (assoc [(3, [(0, ([3], []))])] i).bind fun l => assoc l j
    | .goto j => (assoc [] i).bind fun l => assoc l j
noncomputable def node_Room_L : List Code := selI [3] (loopsOf node_Room_code)
noncomputable def node_Room_J : List Code := selI [] (joinsOf node_Room_code)
noncomputable def node_Room_S : List Code := scopesOf node_Room_code
theorem node_Room_l3_eq0 {ρ : Type} (k : Nat) (K : Ex → St UU → Option ρ) : ∀ (n : Nat) (v : Int × (List (List Int)) × Int × Int), iterK UX (fun s => s.at (node_Room_cfg (ρ := ρ) k).live (node_Room_cfg (ρ := ρ) k).boxes (some 3)) (exec UX (node_Room_cfg k) (node_Room_G k) (node_Room_L.getD 0 .skip)) n ⟨[(3, .pv (.int .i64 v.1)), (6, .pv (.typ (.lli_u8 v.2.1))), (7, .pv (.int .i64 v.2.2.1)), (8, .pv (.int .i64 v.2.2.2))], []⟩ (nrmK UX (node_Room_cfg k) 3 K) = node_Room_l3 k (fun n3 => K (.exit 0) ⟨[(3, .pv (.int .i64 n3))], []⟩) n v.1 v.2.1 v.2.2.1 v.2.2.2 :=
  iter_rec (X := UX) (fun v => ⟨[(3, .pv (.int .i64 v.1)), (6, .pv (.typ (.lli_u8 v.2.1))), (7, .pv (.int .i64 v.2.2.1)), (8, .pv (.int .i64 v.2.2.2))], []⟩) (fun rec v => node_Room_l3_b k (fun n3 => K (.exit 0) ⟨[(3, .pv (.int .i64 n3))], []⟩) (fun n3 t6 t7 t8 => rec (n3, t6, t7, t8)) v.1 v.2.1 v.2.2.1 v.2.2.2) (fun n v => node_Room_l3 k (fun n3 => K (.exit 0) ⟨[(3, .pv (.int .i64 n3))], []⟩) n v.1 v.2.1 v.2.2.1 v.2.2.2) (fun n v => by kernel_rfl) (fun _ => rfl) (fun _ _ => rfl)
theorem node_Room_l3_ok0 {ρ : Type} (k : Nat) : IterOK UX (node_Room_cfg (ρ := ρ) k) (node_Room_G k) (node_Room_L.getD 0 .skip) 3 (node_Room_l3_s k) := by
  intro s K r h
  obtain ⟨env, hp⟩ := s
  unfold node_Room_l3_s at h
  replace h := popS_inv h; obtain ⟨v1, e2, rfl, h⟩ := h
  replace h := asI_inv h; obtain ⟨n3, rfl, h⟩ := h
  replace h := popS_inv h; obtain ⟨v3, e4, rfl, h⟩ := h
  replace h := as_lli_u8_inv h; obtain ⟨t6, rfl, h⟩ := h
  replace h := popS_inv h; obtain ⟨v5, e6, rfl, h⟩ := h
  replace h := asI_inv h; obtain ⟨t7, rfl, h⟩ := h
  replace h := popS_inv h; obtain ⟨v7, e8, rfl, h⟩ := h
  replace h := asI_inv h; obtain ⟨t8, rfl, h⟩ := h
  replace h := popN_inv h; obtain ⟨rfl, h⟩ := h
  replace h := popN_inv h; obtain ⟨rfl, h⟩ := h
  exact ⟨k, (node_Room_l3_eq0 k K k (n3, t6, t7, t8)).trans h⟩
theorem node_Room_cok {ρ : Type} (k : Nat) : COK (node_Room_cfg (ρ := ρ) k) (node_Room_G k) node_Room_code :=
  cok_of (tl := [(3, node_Room_l3_s k)]) (tj := []) (tb := []) rfl rfl rfl (all_nth 1 (by kernel_rfl) ⟨iter_case (by kernel_rfl) rfl (node_Room_l3_ok0 k), trivial⟩) (nil_all (by kernel_rfl)) (fun p hp => by cases hp)
noncomputable def node_Room_enc (r : Int) : AV UU := .pv (.int .i64 r)
noncomputable def node_Room_dec (v : AV UU) (_ : List (List (AV UU))) : Option Int :=
asI .i64 v fun r0 =>
some r0
theorem node_Room_dec_enc (v : AV UU) (b : List (List (AV UU))) (r : Int) (h : node_Room_dec v b = some r) : v = node_Room_enc r := by
  unfold node_Room_dec at h
  replace h := asI_inv h; obtain ⟨r0, rfl, h⟩ := h
  cases h
  rfl
theorem node_Room_eq (k : Nat) (cells0 : List (List Int)) : bodyK UX (node_Room_cfg k) (node_Room_G k) Try.f17 [.pv (.typ (.lli_u8 cells0))] [] node_Room_dec = node_Room k cells0 := by kernel_rfl
theorem node_Room_con (k : Nat) (cells0 : List (List Int)) (r : Int) (h : node_Room k cells0 = some r) : Con (X := UX) Try.prog 17 [.pv (.typ (.lli_u8 cells0))] [] (node_Room_enc r) [] :=
  con_of_body xok tok Try.func17 node_Room_body (node_Room_gok k) rfl (node_Room_cok k) (of_decide_eq_true (by kernel_rfl)) node_Room_dec_enc ((node_Room_eq k cells0).trans h)
noncomputable def node_Room_an {ρ : Type} (k : Nat) : An UX ρ := fun args bx K =>
popA args fun v1 a2 =>
as_lli_u8 v1 fun cells0 =>
popN a2 <|
popN bx <|
(node_Room k cells0).bind fun r => K (node_Room_enc r) []
theorem node_Room_ok {ρ : Type} (k : Nat) : AnsOK Try.prog 17 (node_Room_an (ρ := ρ) k) := by
  intro args bx K r h
  unfold node_Room_an at h
  replace h := popA_inv h; obtain ⟨v1, a2, rfl, h⟩ := h
  replace h := as_lli_u8_inv h; obtain ⟨cells0, rfl, h⟩ := h
  replace h := popN_inv h; obtain ⟨rfl, h⟩ := h
  replace h := popN_inv h; obtain ⟨rfl, h⟩ := h
  replace h := bind_inv h
  obtain ⟨x, hx, h⟩ := h
  exact ⟨there_of Try.func17 (by kernel_rfl) node_Room_body, _, _, h, node_Room_con k cells0 x hx⟩

/-! cadastre/node.Encode -/
noncomputable def node_Encode_code : Code := match Try.f29.body with | some c => c | none => .skip
theorem node_Encode_body : Try.f29.body = some node_Encode_code := by kernel_rfl
noncomputable def node_Encode_G {ρ : Type} (k : Nat) : Ans UX ρ := gk 17 (node_Room_an k) (gk 50 (varint_Put_an k) (gnil))
theorem node_Encode_gok {ρ : Type} (k : Nat) : GOK Try.prog (node_Encode_G (ρ := ρ) k) := gok_cons (node_Room_ok k) (gok_cons (varint_Put_ok k) (gok_nil))
noncomputable def node_Encode_l10_s {ρ : Type} (k : Nat) : Run UX ρ := fun s K =>
popS 8 s.env fun v1 e2 =>
asO_li_u8 v1 fun p8 =>
popS 10 e2 fun v3 e4 =>
asI .i64 v3 fun end10 =>
popS 55 e4 fun v5 e6 =>
as_lli_u8 v5 fun t55 =>
popS 56 e6 fun v7 e8 =>
asI .i64 v7 fun t56 =>
popS 57 e8 fun v9 e10 =>
asI .i64 v9 fun t57 =>
popN e10 <|
popN s.hp <|
node_Encode_l10 k (fun p8 => K (.exit 0) ⟨[(8, .own (.li_u8 p8))], []⟩) k p8 end10 t55 t56 t57
noncomputable def node_Encode_j3_s {ρ : Type} (k : Nat) : Run UX ρ := fun s K =>
popS 0 s.env fun v1 e2 =>
asI .i64 v1 fun kind0 =>
popS 1 e2 fun v3 e4 =>
asI .i64 v3 fun next1 =>
popS 2 e4 fun v5 e6 =>
as_lli_u8 v5 fun cells2 =>
popN e6 <|
popN s.hp <|
node_Encode_j3 k (fun t6 t7 => K .ret ⟨[(6, .own (.li_u8 t6)), (7, .pv (.int .i64 t7))], []⟩) kind0 next1 cells2
noncomputable def node_Encode_cfg {ρ : Type} (k : Nat) : Cfg UX ρ where
  live i := (assoc [(0, [0, 1, 2]), (1, [0, 1, 2]), (2, []), (3, [0, 1, 2]), (4, []), (5, [0, 1, 2]), (6, [0, 1, 2, 8]), (7, [0, 1, 2, 8, 9]), (8, [2, 8]), (9, [2, 8, 10]), (10, [8, 10, 55, 56, 57]), (11, [8, 10, 55, 56, 57]), (12, [8, 10, 11, 12, 55, 56, 57]), (13, [8, 10, 11, 13, 55, 56, 57]), (14, [8, 10, 11, 13, 55, 56, 57]), (15, [8, 10, 11, 55, 56, 57]), (16, [8, 10, 55, 56, 57]), (17, [8])] i).getD []
  boxes i := (assoc [(0, []), (1, []), (2, []), (3, []), (4, []), (5, []), (6, []), (7, []), (8, []), (9, []), (10, []), (11, []), (12, []), (17, [])] i).getD []
  tk i := (assoc [(1000000, [6])] i).getD []
  n := 96
  labelR l := (assoc [] l).getD 0
  loops := assoc [(10, node_Encode_l10_s k)]
  labels := assoc []
  joins := assoc [(3, node_Encode_j3_s k)]
  xl i e := match e with
    | .nxt => assoc [] i
    | .ret => assoc [(3, ([6, 7], []))] i
    | .exit j => (assoc [(10, [(0, ([8], []))])] i).bind fun l => assoc l j
    | .goto j => (assoc [] i).bind fun l => assoc l j
noncomputable def node_Encode_L : List Code := selI [10] (loopsOf node_Encode_code)
noncomputable def node_Encode_J : List Code := selI [3] (joinsOf node_Encode_code)
noncomputable def node_Encode_S : List Code := scopesOf node_Encode_code
theorem node_Encode_l10_eq0 {ρ : Type} (k : Nat) (K : Ex → St UU → Option ρ) : ∀ (n : Nat) (v : (List Int) × Int × (List (List Int)) × Int × Int), iterK UX (fun s => s.at (node_Encode_cfg (ρ := ρ) k).live (node_Encode_cfg (ρ := ρ) k).boxes (some 10)) (exec UX (node_Encode_cfg k) (node_Encode_G k) (node_Encode_L.getD 0 .skip)) n ⟨[(8, .own (.li_u8 v.1)), (10, .pv (.int .i64 v.2.1)), (55, .pv (.typ (.lli_u8 v.2.2.1))), (56, .pv (.int .i64 v.2.2.2.1)), (57, .pv (.int .i64 v.2.2.2.2))], []⟩ (nrmK UX (node_Encode_cfg k) 10 K) = node_Encode_l10 k (fun p8 => K (.exit 0) ⟨[(8, .own (.li_u8 p8))], []⟩) n v.1 v.2.1 v.2.2.1 v.2.2.2.1 v.2.2.2.2 :=
  iter_rec (X := UX) (fun v => ⟨[(8, .own (.li_u8 v.1)), (10, .pv (.int .i64 v.2.1)), (55, .pv (.typ (.lli_u8 v.2.2.1))), (56, .pv (.int .i64 v.2.2.2.1)), (57, .pv (.int .i64 v.2.2.2.2))], []⟩) (fun rec v => node_Encode_l10_b k (fun p8 => K (.exit 0) ⟨[(8, .own (.li_u8 p8))], []⟩) (fun p8 end10 t55 t56 t57 => rec (p8, end10, t55, t56, t57)) v.1 v.2.1 v.2.2.1 v.2.2.2.1 v.2.2.2.2) (fun n v => node_Encode_l10 k (fun p8 => K (.exit 0) ⟨[(8, .own (.li_u8 p8))], []⟩) n v.1 v.2.1 v.2.2.1 v.2.2.2.1 v.2.2.2.2) (fun n v => by kernel_rfl) (fun _ => rfl) (fun _ _ => rfl)
theorem node_Encode_l10_ok0 {ρ : Type} (k : Nat) : IterOK UX (node_Encode_cfg (ρ := ρ) k) (node_Encode_G k) (node_Encode_L.getD 0 .skip) 10 (node_Encode_l10_s k) := by
  intro s K r h
  obtain ⟨env, hp⟩ := s
  unfold node_Encode_l10_s at h
  replace h := popS_inv h; obtain ⟨v1, e2, rfl, h⟩ := h
  replace h := asO_li_u8_inv h; obtain ⟨p8, rfl, h⟩ := h
  replace h := popS_inv h; obtain ⟨v3, e4, rfl, h⟩ := h
  replace h := asI_inv h; obtain ⟨end10, rfl, h⟩ := h
  replace h := popS_inv h; obtain ⟨v5, e6, rfl, h⟩ := h
  replace h := as_lli_u8_inv h; obtain ⟨t55, rfl, h⟩ := h
  replace h := popS_inv h; obtain ⟨v7, e8, rfl, h⟩ := h
  replace h := asI_inv h; obtain ⟨t56, rfl, h⟩ := h
  replace h := popS_inv h; obtain ⟨v9, e10, rfl, h⟩ := h
  replace h := asI_inv h; obtain ⟨t57, rfl, h⟩ := h
  replace h := popN_inv h; obtain ⟨rfl, h⟩ := h
  replace h := popN_inv h; obtain ⟨rfl, h⟩ := h
  exact ⟨k, (node_Encode_l10_eq0 k K k (p8, end10, t55, t56, t57)).trans h⟩
theorem node_Encode_j3_eq0 {ρ : Type} (k : Nat) (K : Ex → St UU → Option ρ) (kind0 : Int) (next1 : Int) (cells2 : List (List Int)) : exec UX (node_Encode_cfg k) (node_Encode_G k) (node_Encode_J.getD 0 .skip) ⟨[(0, .pv (.int .i64 kind0)), (1, .pv (.int .i64 next1)), (2, .pv (.typ (.lli_u8 cells2)))], []⟩ (nrmK UX (node_Encode_cfg k) 3 K) = node_Encode_j3 k (fun t6 t7 => K .ret ⟨[(6, .own (.li_u8 t6)), (7, .pv (.int .i64 t7))], []⟩) kind0 next1 cells2 := by kernel_rfl
theorem node_Encode_j3_ok0 {ρ : Type} (k : Nat) : JoinOK UX (node_Encode_cfg (ρ := ρ) k) (node_Encode_G k) (node_Encode_J.getD 0 .skip) 3 (node_Encode_j3_s k) := by
  intro s K r h
  obtain ⟨env, hp⟩ := s
  unfold node_Encode_j3_s at h
  replace h := popS_inv h; obtain ⟨v1, e2, rfl, h⟩ := h
  replace h := asI_inv h; obtain ⟨kind0, rfl, h⟩ := h
  replace h := popS_inv h; obtain ⟨v3, e4, rfl, h⟩ := h
  replace h := asI_inv h; obtain ⟨next1, rfl, h⟩ := h
  replace h := popS_inv h; obtain ⟨v5, e6, rfl, h⟩ := h
  replace h := as_lli_u8_inv h; obtain ⟨cells2, rfl, h⟩ := h
  replace h := popN_inv h; obtain ⟨rfl, h⟩ := h
  replace h := popN_inv h; obtain ⟨rfl, h⟩ := h
  exact (node_Encode_j3_eq0 k K kind0 next1 cells2).trans h
theorem node_Encode_cok {ρ : Type} (k : Nat) : COK (node_Encode_cfg (ρ := ρ) k) (node_Encode_G k) node_Encode_code :=
  cok_of (tl := [(10, node_Encode_l10_s k)]) (tj := [(3, node_Encode_j3_s k)]) (tb := []) rfl rfl rfl (all_nth 1 (by kernel_rfl) ⟨iter_case (by kernel_rfl) rfl (node_Encode_l10_ok0 k), trivial⟩) (all_nth 1 (by kernel_rfl) ⟨join_case (by kernel_rfl) rfl (node_Encode_j3_ok0 k), trivial⟩) (fun p hp => by cases hp)
noncomputable def node_Encode_enc (r : (List Int) × Int) : AV UU := .pv (.tup [.typ (.li_u8 r.1), .int .i64 r.2])
noncomputable def node_Encode_dec (v : AV UU) (_ : List (List (AV UU))) : Option ((List Int) × Int) :=
asT v fun q1 =>
popA q1 fun p2 q3 =>
as_li_u8 (.pv p2) fun r0 =>
popA q3 fun p4 q5 =>
asI .i64 (.pv p4) fun r1 =>
popN q5 <|
some (r0, r1)
theorem node_Encode_dec_enc (v : AV UU) (b : List (List (AV UU))) (r : (List Int) × Int) (h : node_Encode_dec v b = some r) : v = node_Encode_enc r := by
  unfold node_Encode_dec at h
  replace h := asT_inv h; obtain ⟨q1, rfl, h⟩ := h
  replace h := popA_inv h; obtain ⟨p2, q3, rfl, h⟩ := h
  replace h := as_li_u8_inv h; obtain ⟨r0, e, h⟩ := h; cases e
  replace h := popA_inv h; obtain ⟨p4, q5, rfl, h⟩ := h
  replace h := asI_inv h; obtain ⟨r1, e, h⟩ := h; cases e
  replace h := popN_inv h; obtain ⟨rfl, h⟩ := h
  cases h
  rfl
theorem node_Encode_eq (k : Nat) (kind0 : Int) (next1 : Int) (cells2 : List (List Int)) : bodyK UX (node_Encode_cfg k) (node_Encode_G k) Try.f29 [.pv (.int .i64 kind0), .pv (.int .i64 next1), .pv (.typ (.lli_u8 cells2))] [] node_Encode_dec = node_Encode k kind0 next1 cells2 := by kernel_rfl
theorem node_Encode_con (k : Nat) (kind0 : Int) (next1 : Int) (cells2 : List (List Int)) (r : (List Int) × Int) (h : node_Encode k kind0 next1 cells2 = some r) : Con (X := UX) Try.prog 29 [.pv (.int .i64 kind0), .pv (.int .i64 next1), .pv (.typ (.lli_u8 cells2))] [] (node_Encode_enc r) [] :=
  con_of_body xok tok Try.func29 node_Encode_body (node_Encode_gok k) rfl (node_Encode_cok k) (of_decide_eq_true (by kernel_rfl)) node_Encode_dec_enc ((node_Encode_eq k kind0 next1 cells2).trans h)
noncomputable def node_Encode_an {ρ : Type} (k : Nat) : An UX ρ := fun args bx K =>
popA args fun v1 a2 =>
asI .i64 v1 fun kind0 =>
popA a2 fun v3 a4 =>
asI .i64 v3 fun next1 =>
popA a4 fun v5 a6 =>
as_lli_u8 v5 fun cells2 =>
popN a6 <|
popN bx <|
(node_Encode k kind0 next1 cells2).bind fun r => K (node_Encode_enc r) []
theorem node_Encode_ok {ρ : Type} (k : Nat) : AnsOK Try.prog 29 (node_Encode_an (ρ := ρ) k) := by
  intro args bx K r h
  unfold node_Encode_an at h
  replace h := popA_inv h; obtain ⟨v1, a2, rfl, h⟩ := h
  replace h := asI_inv h; obtain ⟨kind0, rfl, h⟩ := h
  replace h := popA_inv h; obtain ⟨v3, a4, rfl, h⟩ := h
  replace h := asI_inv h; obtain ⟨next1, rfl, h⟩ := h
  replace h := popA_inv h; obtain ⟨v5, a6, rfl, h⟩ := h
  replace h := as_lli_u8_inv h; obtain ⟨cells2, rfl, h⟩ := h
  replace h := popN_inv h; obtain ⟨rfl, h⟩ := h
  replace h := popN_inv h; obtain ⟨rfl, h⟩ := h
  replace h := bind_inv h
  obtain ⟨x, hx, h⟩ := h
  exact ⟨there_of Try.func29 (by kernel_rfl) node_Encode_body, _, _, h, node_Encode_con k kind0 next1 cells2 x hx⟩

/-! cadastre/cadastrelaw11.wakes -/
noncomputable def cadastrelaw11_wakes_code : Code := match Try.f19.body with | some c => c | none => .skip
theorem cadastrelaw11_wakes_body : Try.f19.body = some cadastrelaw11_wakes_code := by kernel_rfl
noncomputable def cadastrelaw11_wakes_G {ρ : Type} (k : Nat) : Ans UX ρ := gk 29 (node_Encode_an k) (gk 30 (cadastrelaw11_num_an k) (gk 17 (node_Room_an k) (gnil)))
theorem cadastrelaw11_wakes_gok {ρ : Type} (k : Nat) : GOK Try.prog (cadastrelaw11_wakes_G (ρ := ρ) k) := gok_cons (node_Encode_ok k) (gok_cons (cadastrelaw11_num_ok k) (gok_cons (node_Room_ok k) (gok_nil)))
noncomputable def cadastrelaw11_wakes_cfg {ρ : Type} (k : Nat) : Cfg UX ρ where
  live i := (assoc [(0, []), (1, []), (2, [1, 2])] i).getD []
  boxes i := (assoc [(0, []), (1, []), (2, [])] i).getD []
  tk i := (assoc [] i).getD []
  n := 25
  labelR l := (assoc [] l).getD 0
  loops := assoc []
  labels := assoc []
  joins := assoc []
  xl i e := match e with
    | .nxt => assoc [] i
    | .ret => assoc [] i
    | .exit j => (assoc [] i).bind fun l => assoc l j
    | .goto j => (assoc [] i).bind fun l => assoc l j
noncomputable def cadastrelaw11_wakes_L : List Code := selI [] (loopsOf cadastrelaw11_wakes_code)
noncomputable def cadastrelaw11_wakes_J : List Code := selI [] (joinsOf cadastrelaw11_wakes_code)
noncomputable def cadastrelaw11_wakes_S : List Code := scopesOf cadastrelaw11_wakes_code
theorem cadastrelaw11_wakes_cok {ρ : Type} (k : Nat) : COK (cadastrelaw11_wakes_cfg (ρ := ρ) k) (cadastrelaw11_wakes_G k) cadastrelaw11_wakes_code :=
  cok_of (tl := []) (tj := []) (tb := []) rfl rfl rfl (nil_all (by kernel_rfl)) (nil_all (by kernel_rfl)) (fun p hp => by cases hp)
noncomputable def cadastrelaw11_wakes_enc (r : Bool) : AV UU := .pv (.bool r)
noncomputable def cadastrelaw11_wakes_dec (v : AV UU) (_ : List (List (AV UU))) : Option Bool :=
asB v fun r0 =>
some r0
theorem cadastrelaw11_wakes_dec_enc (v : AV UU) (b : List (List (AV UU))) (r : Bool) (h : cadastrelaw11_wakes_dec v b = some r) : v = cadastrelaw11_wakes_enc r := by
  unfold cadastrelaw11_wakes_dec at h
  replace h := asB_inv h; obtain ⟨r0, rfl, h⟩ := h
  cases h
  rfl
theorem cadastrelaw11_wakes_eq (k : Nat) : bodyK UX (cadastrelaw11_wakes_cfg k) (cadastrelaw11_wakes_G k) Try.f19 [] [] cadastrelaw11_wakes_dec = cadastrelaw11_wakes k := by kernel_rfl
theorem cadastrelaw11_wakes_con (k : Nat) (r : Bool) (h : cadastrelaw11_wakes k = some r) : Con (X := UX) Try.prog 19 [] [] (cadastrelaw11_wakes_enc r) [] :=
  con_of_body xok tok Try.func19 cadastrelaw11_wakes_body (cadastrelaw11_wakes_gok k) rfl (cadastrelaw11_wakes_cok k) (of_decide_eq_true (by kernel_rfl)) cadastrelaw11_wakes_dec_enc ((cadastrelaw11_wakes_eq k).trans h)
noncomputable def cadastrelaw11_wakes_an {ρ : Type} (k : Nat) : An UX ρ := fun args bx K =>
popN args <|
popN bx <|
(cadastrelaw11_wakes k).bind fun r => K (cadastrelaw11_wakes_enc r) []
theorem cadastrelaw11_wakes_ok {ρ : Type} (k : Nat) : AnsOK Try.prog 19 (cadastrelaw11_wakes_an (ρ := ρ) k) := by
  intro args bx K r h
  unfold cadastrelaw11_wakes_an at h
  replace h := popN_inv h; obtain ⟨rfl, h⟩ := h
  replace h := popN_inv h; obtain ⟨rfl, h⟩ := h
  replace h := bind_inv h
  obtain ⟨x, hx, h⟩ := h
  exact ⟨there_of Try.func19 (by kernel_rfl) cadastrelaw11_wakes_body, _, _, h, cadastrelaw11_wakes_con k x hx⟩

/-! cadastre/cadastrelaw11.NodeDecodes -/
noncomputable def cadastrelaw11_NodeDecodes_code : Code := match Try.f8.body with | some c => c | none => .skip
theorem cadastrelaw11_NodeDecodes_body : Try.f8.body = some cadastrelaw11_NodeDecodes_code := by kernel_rfl
noncomputable def cadastrelaw11_NodeDecodes_G {ρ : Type} (k : Nat) : Ans UX ρ := gk 16 (cadastrelaw11_heavy_an k) (gk 32 (cadastreref6_Cells_an k) (gk 34 (node_Decode_an k) (gk 30 (cadastrelaw11_num_an k) (gk 31 (cadastreref0_EqCells_an k) (gk 33 (cadastreref0_CopyBytes_an k) (gk 19 (cadastrelaw11_wakes_an k) (gnil)))))))
theorem cadastrelaw11_NodeDecodes_gok {ρ : Type} (k : Nat) : GOK Try.prog (cadastrelaw11_NodeDecodes_G (ρ := ρ) k) := gok_cons (cadastrelaw11_heavy_ok k) (gok_cons (cadastreref6_Cells_ok k) (gok_cons (node_Decode_ok k) (gok_cons (cadastrelaw11_num_ok k) (gok_cons (cadastreref0_EqCells_ok k) (gok_cons (cadastreref0_CopyBytes_ok k) (gok_cons (cadastrelaw11_wakes_ok k) (gok_nil)))))))
noncomputable def cadastrelaw11_NodeDecodes_j10_s {ρ : Type} (k : Nat) : Run UX ρ := fun s K =>
popS 0 s.env fun v1 e2 =>
as_l26 v1 fun l0 =>
popS 3 e2 fun v3 e4 =>
asI .i64 v3 fun i3 =>
popS 7 e4 fun v5 e6 =>
asB v5 fun ok7 =>
popN e6 <|
popN s.hp <|
cadastrelaw11_NodeDecodes_j10 k (fun t2 => K .ret ⟨[(2, .pv (.bool t2))], []⟩) (fun l0 i3 => K .nxt ⟨[(0, .pv (.typ (.l26 l0))), (3, .pv (.int .i64 i3))], []⟩) l0 i3 ok7
noncomputable def cadastrelaw11_NodeDecodes_j4_s {ρ : Type} (k : Nat) : Run UX ρ := fun s K =>
popS 0 s.env fun v1 e2 =>
as_l26 v1 fun l0 =>
popS 3 e2 fun v3 e4 =>
asI .i64 v3 fun i3 =>
popN e4 <|
popN s.hp <|
cadastrelaw11_NodeDecodes_j4 k (fun t2 => K .ret ⟨[(2, .pv (.bool t2))], []⟩) (fun l0 i3 => K .nxt ⟨[(0, .pv (.typ (.l26 l0))), (3, .pv (.int .i64 i3))], []⟩) l0 i3
noncomputable def cadastrelaw11_NodeDecodes_l2_s {ρ : Type} (k : Nat) : Run UX ρ := fun s K =>
popS 0 s.env fun v1 e2 =>
as_l26 v1 fun l0 =>
popS 3 e2 fun v3 e4 =>
asI .i64 v3 fun i3 =>
popN e4 <|
popN s.hp <|
cadastrelaw11_NodeDecodes_l2 k (fun t2 => K .ret ⟨[(2, .pv (.bool t2))], []⟩) (K (.exit 0) ⟨[], []⟩) k l0 i3
noncomputable def cadastrelaw11_NodeDecodes_cfg {ρ : Type} (k : Nat) : Cfg UX ρ where
  live i := (assoc [(0, [0]), (1, [0]), (2, [0, 3]), (3, [0, 3]), (4, [0, 3]), (5, []), (6, [0, 3]), (7, [0, 3, 4, 5, 6, 7]), (8, [0, 3, 4, 5, 6, 7, 8, 9, 10, 11]), (9, []), (10, [0, 3, 7]), (11, [0, 3]), (12, [0, 3, 15]), (13, [0, 3, 15, 19]), (14, []), (15, [])] i).getD []
  boxes i := (assoc [(0, []), (1, []), (2, []), (3, []), (4, []), (5, []), (6, []), (7, []), (8, []), (9, []), (10, []), (11, []), (12, []), (13, []), (14, []), (15, [])] i).getD []
  tk i := (assoc [] i).getD []
  n := 139
  labelR l := (assoc [] l).getD 0
  loops := assoc [(2, cadastrelaw11_NodeDecodes_l2_s k)]
  labels := assoc []
  joins := assoc [(10, cadastrelaw11_NodeDecodes_j10_s k), (4, cadastrelaw11_NodeDecodes_j4_s k)]
  xl i e := match e with
    | .nxt => assoc [(10, ([0, 3], [])), (4, ([0, 3], []))] i
    | .ret => assoc [(10, ([2], [])), (4, ([2], [])), (2, ([2], []))] i
    | .exit j => (assoc [(2, [(0, ([], []))])] i).bind fun l => assoc l j
    | .goto j => (assoc [] i).bind fun l => assoc l j
noncomputable def cadastrelaw11_NodeDecodes_L : List Code := selI [2] (loopsOf cadastrelaw11_NodeDecodes_code)
noncomputable def cadastrelaw11_NodeDecodes_J : List Code := selI [10, 4] (joinsOf cadastrelaw11_NodeDecodes_code)
noncomputable def cadastrelaw11_NodeDecodes_S : List Code := scopesOf cadastrelaw11_NodeDecodes_code
theorem cadastrelaw11_NodeDecodes_l2_eq0 {ρ : Type} (k : Nat) (K : Ex → St UU → Option ρ) : ∀ (n : Nat) (v : (List S26) × Int), iterK UX (fun s => s.at (cadastrelaw11_NodeDecodes_cfg (ρ := ρ) k).live (cadastrelaw11_NodeDecodes_cfg (ρ := ρ) k).boxes (some 2)) (exec UX (cadastrelaw11_NodeDecodes_cfg k) (cadastrelaw11_NodeDecodes_G k) (cadastrelaw11_NodeDecodes_L.getD 0 .skip)) n ⟨[(0, .pv (.typ (.l26 v.1))), (3, .pv (.int .i64 v.2))], []⟩ (nrmK UX (cadastrelaw11_NodeDecodes_cfg k) 2 K) = cadastrelaw11_NodeDecodes_l2 k (fun t2 => K .ret ⟨[(2, .pv (.bool t2))], []⟩) (K (.exit 0) ⟨[], []⟩) n v.1 v.2 :=
  iter_rec (X := UX) (fun v => ⟨[(0, .pv (.typ (.l26 v.1))), (3, .pv (.int .i64 v.2))], []⟩) (fun rec v => cadastrelaw11_NodeDecodes_l2_b k (fun t2 => K .ret ⟨[(2, .pv (.bool t2))], []⟩) (K (.exit 0) ⟨[], []⟩) (fun l0 i3 => rec (l0, i3)) v.1 v.2) (fun n v => cadastrelaw11_NodeDecodes_l2 k (fun t2 => K .ret ⟨[(2, .pv (.bool t2))], []⟩) (K (.exit 0) ⟨[], []⟩) n v.1 v.2) (fun n v => by kernel_rfl) (fun _ => rfl) (fun _ _ => rfl)
theorem cadastrelaw11_NodeDecodes_l2_ok0 {ρ : Type} (k : Nat) : IterOK UX (cadastrelaw11_NodeDecodes_cfg (ρ := ρ) k) (cadastrelaw11_NodeDecodes_G k) (cadastrelaw11_NodeDecodes_L.getD 0 .skip) 2 (cadastrelaw11_NodeDecodes_l2_s k) := by
  intro s K r h
  obtain ⟨env, hp⟩ := s
  unfold cadastrelaw11_NodeDecodes_l2_s at h
  replace h := popS_inv h; obtain ⟨v1, e2, rfl, h⟩ := h
  replace h := as_l26_inv h; obtain ⟨l0, rfl, h⟩ := h
  replace h := popS_inv h; obtain ⟨v3, e4, rfl, h⟩ := h
  replace h := asI_inv h; obtain ⟨i3, rfl, h⟩ := h
  replace h := popN_inv h; obtain ⟨rfl, h⟩ := h
  replace h := popN_inv h; obtain ⟨rfl, h⟩ := h
  exact ⟨k, (cadastrelaw11_NodeDecodes_l2_eq0 k K k (l0, i3)).trans h⟩
theorem cadastrelaw11_NodeDecodes_j4_eq0 {ρ : Type} (k : Nat) (K : Ex → St UU → Option ρ) (l0 : List S26) (i3 : Int) : exec UX (cadastrelaw11_NodeDecodes_cfg k) (cadastrelaw11_NodeDecodes_G k) (cadastrelaw11_NodeDecodes_J.getD 0 .skip) ⟨[(0, .pv (.typ (.l26 l0))), (3, .pv (.int .i64 i3))], []⟩ (nrmK UX (cadastrelaw11_NodeDecodes_cfg k) 4 K) = cadastrelaw11_NodeDecodes_j4 k (fun t2 => K .ret ⟨[(2, .pv (.bool t2))], []⟩) (fun l0 i3 => K .nxt ⟨[(0, .pv (.typ (.l26 l0))), (3, .pv (.int .i64 i3))], []⟩) l0 i3 := by kernel_rfl
theorem cadastrelaw11_NodeDecodes_j4_ok0 {ρ : Type} (k : Nat) : JoinOK UX (cadastrelaw11_NodeDecodes_cfg (ρ := ρ) k) (cadastrelaw11_NodeDecodes_G k) (cadastrelaw11_NodeDecodes_J.getD 0 .skip) 4 (cadastrelaw11_NodeDecodes_j4_s k) := by
  intro s K r h
  obtain ⟨env, hp⟩ := s
  unfold cadastrelaw11_NodeDecodes_j4_s at h
  replace h := popS_inv h; obtain ⟨v1, e2, rfl, h⟩ := h
  replace h := as_l26_inv h; obtain ⟨l0, rfl, h⟩ := h
  replace h := popS_inv h; obtain ⟨v3, e4, rfl, h⟩ := h
  replace h := asI_inv h; obtain ⟨i3, rfl, h⟩ := h
  replace h := popN_inv h; obtain ⟨rfl, h⟩ := h
  replace h := popN_inv h; obtain ⟨rfl, h⟩ := h
  exact (cadastrelaw11_NodeDecodes_j4_eq0 k K l0 i3).trans h
theorem cadastrelaw11_NodeDecodes_j10_eq1 {ρ : Type} (k : Nat) (K : Ex → St UU → Option ρ) (l0 : List S26) (i3 : Int) (ok7 : Bool) : exec UX (cadastrelaw11_NodeDecodes_cfg k) (cadastrelaw11_NodeDecodes_G k) (cadastrelaw11_NodeDecodes_J.getD 1 .skip) ⟨[(0, .pv (.typ (.l26 l0))), (3, .pv (.int .i64 i3)), (7, .pv (.bool ok7))], []⟩ (nrmK UX (cadastrelaw11_NodeDecodes_cfg k) 10 K) = cadastrelaw11_NodeDecodes_j10 k (fun t2 => K .ret ⟨[(2, .pv (.bool t2))], []⟩) (fun l0 i3 => K .nxt ⟨[(0, .pv (.typ (.l26 l0))), (3, .pv (.int .i64 i3))], []⟩) l0 i3 ok7 := by kernel_rfl
theorem cadastrelaw11_NodeDecodes_j10_ok1 {ρ : Type} (k : Nat) : JoinOK UX (cadastrelaw11_NodeDecodes_cfg (ρ := ρ) k) (cadastrelaw11_NodeDecodes_G k) (cadastrelaw11_NodeDecodes_J.getD 1 .skip) 10 (cadastrelaw11_NodeDecodes_j10_s k) := by
  intro s K r h
  obtain ⟨env, hp⟩ := s
  unfold cadastrelaw11_NodeDecodes_j10_s at h
  replace h := popS_inv h; obtain ⟨v1, e2, rfl, h⟩ := h
  replace h := as_l26_inv h; obtain ⟨l0, rfl, h⟩ := h
  replace h := popS_inv h; obtain ⟨v3, e4, rfl, h⟩ := h
  replace h := asI_inv h; obtain ⟨i3, rfl, h⟩ := h
  replace h := popS_inv h; obtain ⟨v5, e6, rfl, h⟩ := h
  replace h := asB_inv h; obtain ⟨ok7, rfl, h⟩ := h
  replace h := popN_inv h; obtain ⟨rfl, h⟩ := h
  replace h := popN_inv h; obtain ⟨rfl, h⟩ := h
  exact (cadastrelaw11_NodeDecodes_j10_eq1 k K l0 i3 ok7).trans h
theorem cadastrelaw11_NodeDecodes_cok {ρ : Type} (k : Nat) : COK (cadastrelaw11_NodeDecodes_cfg (ρ := ρ) k) (cadastrelaw11_NodeDecodes_G k) cadastrelaw11_NodeDecodes_code :=
  cok_of (tl := [(2, cadastrelaw11_NodeDecodes_l2_s k)]) (tj := [(10, cadastrelaw11_NodeDecodes_j10_s k), (4, cadastrelaw11_NodeDecodes_j4_s k)]) (tb := []) rfl rfl rfl (all_nth 1 (by kernel_rfl) ⟨iter_case (by kernel_rfl) rfl (cadastrelaw11_NodeDecodes_l2_ok0 k), trivial⟩) (all_nth 2 (by kernel_rfl) ⟨join_case (by kernel_rfl) rfl (cadastrelaw11_NodeDecodes_j10_ok1 k), join_case (by kernel_rfl) rfl (cadastrelaw11_NodeDecodes_j4_ok0 k), trivial⟩) (fun p hp => by cases hp)
noncomputable def cadastrelaw11_NodeDecodes_enc (r : Bool) : AV UU := .pv (.bool r)
noncomputable def cadastrelaw11_NodeDecodes_dec (v : AV UU) (_ : List (List (AV UU))) : Option Bool :=
asB v fun r0 =>
some r0
theorem cadastrelaw11_NodeDecodes_dec_enc (v : AV UU) (b : List (List (AV UU))) (r : Bool) (h : cadastrelaw11_NodeDecodes_dec v b = some r) : v = cadastrelaw11_NodeDecodes_enc r := by
  unfold cadastrelaw11_NodeDecodes_dec at h
  replace h := asB_inv h; obtain ⟨r0, rfl, h⟩ := h
  cases h
  rfl
theorem cadastrelaw11_NodeDecodes_eq (k : Nat) (l0 : List S26) : bodyK UX (cadastrelaw11_NodeDecodes_cfg k) (cadastrelaw11_NodeDecodes_G k) Try.f8 [.pv (.typ (.l26 l0))] [] cadastrelaw11_NodeDecodes_dec = cadastrelaw11_NodeDecodes k l0 := by kernel_rfl
theorem cadastrelaw11_NodeDecodes_con (k : Nat) (l0 : List S26) (r : Bool) (h : cadastrelaw11_NodeDecodes k l0 = some r) : Con (X := UX) Try.prog 8 [.pv (.typ (.l26 l0))] [] (cadastrelaw11_NodeDecodes_enc r) [] :=
  con_of_body xok tok Try.func8 cadastrelaw11_NodeDecodes_body (cadastrelaw11_NodeDecodes_gok k) rfl (cadastrelaw11_NodeDecodes_cok k) (of_decide_eq_true (by kernel_rfl)) cadastrelaw11_NodeDecodes_dec_enc ((cadastrelaw11_NodeDecodes_eq k l0).trans h)
noncomputable def cadastrelaw11_NodeDecodes_an {ρ : Type} (k : Nat) : An UX ρ := fun args bx K =>
popA args fun v1 a2 =>
as_l26 v1 fun l0 =>
popN a2 <|
popN bx <|
(cadastrelaw11_NodeDecodes k l0).bind fun r => K (cadastrelaw11_NodeDecodes_enc r) []
theorem cadastrelaw11_NodeDecodes_ok {ρ : Type} (k : Nat) : AnsOK Try.prog 8 (cadastrelaw11_NodeDecodes_an (ρ := ρ) k) := by
  intro args bx K r h
  unfold cadastrelaw11_NodeDecodes_an at h
  replace h := popA_inv h; obtain ⟨v1, a2, rfl, h⟩ := h
  replace h := as_l26_inv h; obtain ⟨l0, rfl, h⟩ := h
  replace h := popN_inv h; obtain ⟨rfl, h⟩ := h
  replace h := popN_inv h; obtain ⟨rfl, h⟩ := h
  replace h := bind_inv h
  obtain ⟨x, hx, h⟩ := h
  exact ⟨there_of Try.func8 (by kernel_rfl) cadastrelaw11_NodeDecodes_body, _, _, h, cadastrelaw11_NodeDecodes_con k l0 x hx⟩
end Go.Proofs.Ytekjibpkkgldgaa.M
