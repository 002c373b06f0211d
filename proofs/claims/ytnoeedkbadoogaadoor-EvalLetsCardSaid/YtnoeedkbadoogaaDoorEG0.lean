/-
  What the program's functions answer: the printed functions' answers.
-/
import Derived.Test.YtnoeedkbadoogaaDoorEU
import Derived.Test.YtnoeedkbadoogaaDoorAxExt
import Derived.Test.YtnoeedkbadoogaaDoorAxTab
import Derived.Test.YtnoeedkbadoogaaDoorLay
namespace Go.Proofs.YtnoeedkbadoogaaDoor.E
open Go Go.AX
noncomputable def cadastrelaw21_Weight_code : Code := match Tryd.f21.body with | some c => c | none => .skip
theorem cadastrelaw21_Weight_body : Tryd.f21.body = some cadastrelaw21_Weight_code := by kernel_rfl
noncomputable def cadastrelaw21_Weight_enc (r : Int) : AV UU := .pv (.int .i64 r)
structure cadastrelaw21_Weight_R_ok (rc : cadastrelaw21_Weight_R) : Prop where
  cadastrelaw21_Weight : ∀ (l0 : List T25) (n1 : Int) (deep2 : Int) (r : Int), rc.cadastrelaw21_Weight l0 n1 deep2 = some r → Con (X := UX) Tryd.prog 21 [.pv (.typ (.l25 l0)), .pv (.int .i64 n1), .pv (.int .i64 deep2)] [] (cadastrelaw21_Weight_enc r) []
noncomputable def cadastrelaw21_Weight_ran {ρ : Type} (rc : cadastrelaw21_Weight_R) : An UX ρ := fun args bx K =>
popA args fun v1 a2 =>
as_l25 v1 fun l0 =>
popA a2 fun v3 a4 =>
asI .i64 v3 fun n1 =>
popA a4 fun v5 a6 =>
asI .i64 v5 fun deep2 =>
popN a6 <|
popN bx <|
(rc.cadastrelaw21_Weight l0 n1 deep2).bind fun r => K (cadastrelaw21_Weight_enc r) []
theorem cadastrelaw21_Weight_rok {ρ : Type} (rc : cadastrelaw21_Weight_R) (hrc : cadastrelaw21_Weight_R_ok rc) : AnsOK Tryd.prog 21 (cadastrelaw21_Weight_ran (ρ := ρ) rc) := by
  intro args bx K r h
  unfold cadastrelaw21_Weight_ran at h
  replace h := popA_inv h; obtain ⟨v1, a2, rfl, h⟩ := h
  replace h := as_l25_inv h; obtain ⟨l0, rfl, h⟩ := h
  replace h := popA_inv h; obtain ⟨v3, a4, rfl, h⟩ := h
  replace h := asI_inv h; obtain ⟨n1, rfl, h⟩ := h
  replace h := popA_inv h; obtain ⟨v5, a6, rfl, h⟩ := h
  replace h := asI_inv h; obtain ⟨deep2, rfl, h⟩ := h
  replace h := popN_inv h; obtain ⟨rfl, h⟩ := h
  replace h := popN_inv h; obtain ⟨rfl, h⟩ := h
  replace h := bind_inv h
  obtain ⟨x, hx, h⟩ := h
  exact ⟨there_of Tryd.func21 (by kernel_rfl) cadastrelaw21_Weight_body, _, _, h, hrc.cadastrelaw21_Weight l0 n1 deep2 x hx⟩
/-! cadastre/cadastrelaw21.Weight -/
noncomputable def cadastrelaw21_Weight_G {ρ : Type} (k : Nat) (rc : cadastrelaw21_Weight_R) : Ans UX ρ := gk 21 (cadastrelaw21_Weight_ran rc) (gnil)
theorem cadastrelaw21_Weight_gok {ρ : Type} (k : Nat) (rc : cadastrelaw21_Weight_R) (hrc : cadastrelaw21_Weight_R_ok rc) : GOK Tryd.prog (cadastrelaw21_Weight_G (ρ := ρ) k rc) := gok_cons (cadastrelaw21_Weight_rok rc hrc) (gok_nil)
noncomputable def cadastrelaw21_Weight_j6_s {ρ : Type} (k : Nat) (rc : cadastrelaw21_Weight_R) : Run UX ρ := fun s K =>
popS 0 s.env fun v1 e2 =>
as_l25 v1 fun l0 =>
popS 1 e2 fun v3 e4 =>
asI .i64 v3 fun n1 =>
popS 2 e4 fun v5 e6 =>
asI .i64 v5 fun deep2 =>
popS 7 e6 fun v7 e8 =>
asI .i64 v7 fun i7 =>
popN e8 <|
popN s.hp <|
cadastrelaw21_Weight_j6 k rc (fun l0 n1 deep2 i7 => K .nxt ⟨[(0, .pv (.typ (.l25 l0))), (1, .pv (.int .i64 n1)), (2, .pv (.int .i64 deep2)), (7, .pv (.int .i64 i7))], []⟩) l0 n1 deep2 i7
noncomputable def cadastrelaw21_Weight_l4_s {ρ : Type} (k : Nat) (rc : cadastrelaw21_Weight_R) : Run UX ρ := fun s K =>
popS 0 s.env fun v1 e2 =>
as_l25 v1 fun l0 =>
popS 1 e2 fun v3 e4 =>
asI .i64 v3 fun n1 =>
popS 2 e4 fun v5 e6 =>
asI .i64 v5 fun deep2 =>
popS 7 e6 fun v7 e8 =>
asI .i64 v7 fun i7 =>
popN e8 <|
popN s.hp <|
cadastrelaw21_Weight_l4 k rc (fun n1 => K (.exit 0) ⟨[(1, .pv (.int .i64 n1))], []⟩) k l0 n1 deep2 i7
noncomputable def cadastrelaw21_Weight_cfg {ρ : Type} (k : Nat) (rc : cadastrelaw21_Weight_R) : Cfg UX ρ where
  live i := (assoc [(0, [0, 1, 2]), (1, [0, 1, 2]), (2, []), (3, [0, 1, 2]), (4, [0, 1, 2, 7]), (5, [0, 1, 2, 7]), (6, [0, 1, 2, 7]), (7, [1])] i).getD []
  boxes i := (assoc [(0, []), (1, []), (2, []), (3, []), (4, []), (5, []), (6, []), (7, [])] i).getD []
  tk i := (assoc [] i).getD []
  n := 40
  labelR l := (assoc [] l).getD 0
  loops := assoc [(4, cadastrelaw21_Weight_l4_s k rc)]
  labels := assoc []
  joins := assoc [(6, cadastrelaw21_Weight_j6_s k rc)]
  xl i e := match e with
    | .nxt => assoc [(6, ([0, 1, 2, 7], []))] i
    | .ret => assoc [] i
    | .exit j => (assoc [(4, [(0, ([1], []))])] i).bind fun l => assoc l j
    | .goto j => (assoc [] i).bind fun l => assoc l j
noncomputable def cadastrelaw21_Weight_L : List Code := selI [4] (loopsOf cadastrelaw21_Weight_code)
noncomputable def cadastrelaw21_Weight_J : List Code := selI [6] (joinsOf cadastrelaw21_Weight_code)
noncomputable def cadastrelaw21_Weight_S : List Code := scopesOf cadastrelaw21_Weight_code
theorem cadastrelaw21_Weight_l4_eq0 {ρ : Type} (k : Nat) (rc : cadastrelaw21_Weight_R) (K : Ex → St UU → Option ρ) : ∀ (n : Nat) (v : (List T25) × Int × Int × Int), iterK UX (fun s => s.at (cadastrelaw21_Weight_cfg (ρ := ρ) k rc).live (cadastrelaw21_Weight_cfg (ρ := ρ) k rc).boxes (some 4)) (exec UX (cadastrelaw21_Weight_cfg k rc) (cadastrelaw21_Weight_G k rc) (cadastrelaw21_Weight_L.getD 0 .skip)) n ⟨[(0, .pv (.typ (.l25 v.1))), (1, .pv (.int .i64 v.2.1)), (2, .pv (.int .i64 v.2.2.1)), (7, .pv (.int .i64 v.2.2.2))], []⟩ (nrmK UX (cadastrelaw21_Weight_cfg k rc) 4 K) = cadastrelaw21_Weight_l4 k rc (fun n1 => K (.exit 0) ⟨[(1, .pv (.int .i64 n1))], []⟩) n v.1 v.2.1 v.2.2.1 v.2.2.2 :=
  iter_rec (X := UX) (fun v => ⟨[(0, .pv (.typ (.l25 v.1))), (1, .pv (.int .i64 v.2.1)), (2, .pv (.int .i64 v.2.2.1)), (7, .pv (.int .i64 v.2.2.2))], []⟩) (fun rec v => cadastrelaw21_Weight_l4_b k rc (fun n1 => K (.exit 0) ⟨[(1, .pv (.int .i64 n1))], []⟩) (fun l0 n1 deep2 i7 => rec (l0, n1, deep2, i7)) v.1 v.2.1 v.2.2.1 v.2.2.2) (fun n v => cadastrelaw21_Weight_l4 k rc (fun n1 => K (.exit 0) ⟨[(1, .pv (.int .i64 n1))], []⟩) n v.1 v.2.1 v.2.2.1 v.2.2.2) (fun n v => by kernel_rfl) (fun _ => rfl) (fun _ _ => rfl)
theorem cadastrelaw21_Weight_l4_ok0 {ρ : Type} (k : Nat) (rc : cadastrelaw21_Weight_R) : IterOK UX (cadastrelaw21_Weight_cfg (ρ := ρ) k rc) (cadastrelaw21_Weight_G k rc) (cadastrelaw21_Weight_L.getD 0 .skip) 4 (cadastrelaw21_Weight_l4_s k rc) := by
  intro s K r h
  obtain ⟨env, hp⟩ := s
  unfold cadastrelaw21_Weight_l4_s at h
  replace h := popS_inv h; obtain ⟨v1, e2, rfl, h⟩ := h
  replace h := as_l25_inv h; obtain ⟨l0, rfl, h⟩ := h
  replace h := popS_inv h; obtain ⟨v3, e4, rfl, h⟩ := h
  replace h := asI_inv h; obtain ⟨n1, rfl, h⟩ := h
  replace h := popS_inv h; obtain ⟨v5, e6, rfl, h⟩ := h
  replace h := asI_inv h; obtain ⟨deep2, rfl, h⟩ := h
  replace h := popS_inv h; obtain ⟨v7, e8, rfl, h⟩ := h
  replace h := asI_inv h; obtain ⟨i7, rfl, h⟩ := h
  replace h := popN_inv h; obtain ⟨rfl, h⟩ := h
  replace h := popN_inv h; obtain ⟨rfl, h⟩ := h
  exact ⟨k, (cadastrelaw21_Weight_l4_eq0 k rc K k (l0, n1, deep2, i7)).trans h⟩
theorem cadastrelaw21_Weight_j6_eq0 {ρ : Type} (k : Nat) (rc : cadastrelaw21_Weight_R) (K : Ex → St UU → Option ρ) (l0 : List T25) (n1 : Int) (deep2 : Int) (i7 : Int) : exec UX (cadastrelaw21_Weight_cfg k rc) (cadastrelaw21_Weight_G k rc) (cadastrelaw21_Weight_J.getD 0 .skip) ⟨[(0, .pv (.typ (.l25 l0))), (1, .pv (.int .i64 n1)), (2, .pv (.int .i64 deep2)), (7, .pv (.int .i64 i7))], []⟩ (nrmK UX (cadastrelaw21_Weight_cfg k rc) 6 K) = cadastrelaw21_Weight_j6 k rc (fun l0 n1 deep2 i7 => K .nxt ⟨[(0, .pv (.typ (.l25 l0))), (1, .pv (.int .i64 n1)), (2, .pv (.int .i64 deep2)), (7, .pv (.int .i64 i7))], []⟩) l0 n1 deep2 i7 := by kernel_rfl
theorem cadastrelaw21_Weight_j6_ok0 {ρ : Type} (k : Nat) (rc : cadastrelaw21_Weight_R) : JoinOK UX (cadastrelaw21_Weight_cfg (ρ := ρ) k rc) (cadastrelaw21_Weight_G k rc) (cadastrelaw21_Weight_J.getD 0 .skip) 6 (cadastrelaw21_Weight_j6_s k rc) := by
  intro s K r h
  obtain ⟨env, hp⟩ := s
  unfold cadastrelaw21_Weight_j6_s at h
  replace h := popS_inv h; obtain ⟨v1, e2, rfl, h⟩ := h
  replace h := as_l25_inv h; obtain ⟨l0, rfl, h⟩ := h
  replace h := popS_inv h; obtain ⟨v3, e4, rfl, h⟩ := h
  replace h := asI_inv h; obtain ⟨n1, rfl, h⟩ := h
  replace h := popS_inv h; obtain ⟨v5, e6, rfl, h⟩ := h
  replace h := asI_inv h; obtain ⟨deep2, rfl, h⟩ := h
  replace h := popS_inv h; obtain ⟨v7, e8, rfl, h⟩ := h
  replace h := asI_inv h; obtain ⟨i7, rfl, h⟩ := h
  replace h := popN_inv h; obtain ⟨rfl, h⟩ := h
  replace h := popN_inv h; obtain ⟨rfl, h⟩ := h
  exact (cadastrelaw21_Weight_j6_eq0 k rc K l0 n1 deep2 i7).trans h
theorem cadastrelaw21_Weight_cok {ρ : Type} (k : Nat) (rc : cadastrelaw21_Weight_R) : COK (cadastrelaw21_Weight_cfg (ρ := ρ) k rc) (cadastrelaw21_Weight_G k rc) cadastrelaw21_Weight_code :=
  cok_of (tl := [(4, cadastrelaw21_Weight_l4_s k rc)]) (tj := [(6, cadastrelaw21_Weight_j6_s k rc)]) (tb := []) rfl rfl rfl (all_nth 1 (by kernel_rfl) ⟨iter_case (by kernel_rfl) rfl (cadastrelaw21_Weight_l4_ok0 k rc), trivial⟩) (all_nth 1 (by kernel_rfl) ⟨join_case (by kernel_rfl) rfl (cadastrelaw21_Weight_j6_ok0 k rc), trivial⟩) (fun p hp => by cases hp)
noncomputable def cadastrelaw21_Weight_dec (v : AV UU) (_ : List (List (AV UU))) : Option Int :=
asI .i64 v fun r0 =>
some r0
theorem cadastrelaw21_Weight_dec_enc (v : AV UU) (b : List (List (AV UU))) (r : Int) (h : cadastrelaw21_Weight_dec v b = some r) : v = cadastrelaw21_Weight_enc r := by
  unfold cadastrelaw21_Weight_dec at h
  replace h := asI_inv h; obtain ⟨r0, rfl, h⟩ := h
  cases h
  rfl
theorem cadastrelaw21_Weight_eq (k : Nat) (rc : cadastrelaw21_Weight_R) (l0 : List T25) (n1 : Int) (deep2 : Int) : bodyK UX (cadastrelaw21_Weight_cfg k rc) (cadastrelaw21_Weight_G k rc) Tryd.f21 [.pv (.typ (.l25 l0)), .pv (.int .i64 n1), .pv (.int .i64 deep2)] [] cadastrelaw21_Weight_dec = cadastrelaw21_Weight_r k rc l0 n1 deep2 := by kernel_rfl
theorem cadastrelaw21_Weight_con_r (k : Nat) (rc : cadastrelaw21_Weight_R) (hrc : cadastrelaw21_Weight_R_ok rc) (l0 : List T25) (n1 : Int) (deep2 : Int) (r : Int) (h : cadastrelaw21_Weight_r k rc l0 n1 deep2 = some r) : Con (X := UX) Tryd.prog 21 [.pv (.typ (.l25 l0)), .pv (.int .i64 n1), .pv (.int .i64 deep2)] [] (cadastrelaw21_Weight_enc r) [] :=
  con_of_body xok tok Tryd.func21 cadastrelaw21_Weight_body (cadastrelaw21_Weight_gok k rc hrc) rfl (cadastrelaw21_Weight_cok k rc) (of_decide_eq_true (by kernel_rfl)) cadastrelaw21_Weight_dec_enc ((cadastrelaw21_Weight_eq k rc l0 n1 deep2).trans h)
theorem cadastrelaw21_Weight_R_itok (k : Nat) : ∀ d, cadastrelaw21_Weight_R_ok (cadastrelaw21_Weight_R_it k d)
  | 0 => ⟨fun l0 n1 deep2 r h => by have e : (none : Option Int) = some r := h; cases e⟩
  | d + 1 => ⟨fun l0 n1 deep2 r h => cadastrelaw21_Weight_con_r k (cadastrelaw21_Weight_R_it k d) (cadastrelaw21_Weight_R_itok k d) l0 n1 deep2 r h⟩
theorem cadastrelaw21_Weight_con (k : Nat) (l0 : List T25) (n1 : Int) (deep2 : Int) (r : Int) (h : cadastrelaw21_Weight k l0 n1 deep2 = some r) : Con (X := UX) Tryd.prog 21 [.pv (.typ (.l25 l0)), .pv (.int .i64 n1), .pv (.int .i64 deep2)] [] (cadastrelaw21_Weight_enc r) [] := (cadastrelaw21_Weight_R_itok k k).cadastrelaw21_Weight l0 n1 deep2 r h
noncomputable def cadastrelaw21_Weight_an {ρ : Type} (k : Nat) : An UX ρ := fun args bx K =>
popA args fun v1 a2 =>
as_l25 v1 fun l0 =>
popA a2 fun v3 a4 =>
asI .i64 v3 fun n1 =>
popA a4 fun v5 a6 =>
asI .i64 v5 fun deep2 =>
popN a6 <|
popN bx <|
(cadastrelaw21_Weight k l0 n1 deep2).bind fun r => K (cadastrelaw21_Weight_enc r) []
theorem cadastrelaw21_Weight_ok {ρ : Type} (k : Nat) : AnsOK Tryd.prog 21 (cadastrelaw21_Weight_an (ρ := ρ) k) := by
  intro args bx K r h
  unfold cadastrelaw21_Weight_an at h
  replace h := popA_inv h; obtain ⟨v1, a2, rfl, h⟩ := h
  replace h := as_l25_inv h; obtain ⟨l0, rfl, h⟩ := h
  replace h := popA_inv h; obtain ⟨v3, a4, rfl, h⟩ := h
  replace h := asI_inv h; obtain ⟨n1, rfl, h⟩ := h
  replace h := popA_inv h; obtain ⟨v5, a6, rfl, h⟩ := h
  replace h := asI_inv h; obtain ⟨deep2, rfl, h⟩ := h
  replace h := popN_inv h; obtain ⟨rfl, h⟩ := h
  replace h := popN_inv h; obtain ⟨rfl, h⟩ := h
  replace h := bind_inv h
  obtain ⟨x, hx, h⟩ := h
  exact ⟨there_of Tryd.func21 (by kernel_rfl) cadastrelaw21_Weight_body, _, _, h, cadastrelaw21_Weight_con k l0 n1 deep2 x hx⟩

/-! cadastre/cadastrelaw0.Light -/
noncomputable def cadastrelaw0_Light_code : Code := match Tryd.f22.body with | some c => c | none => .skip
theorem cadastrelaw0_Light_body : Tryd.f22.body = some cadastrelaw0_Light_code := by kernel_rfl
noncomputable def cadastrelaw0_Light_G {ρ : Type} (k : Nat) : Ans UX ρ := gnil
theorem cadastrelaw0_Light_gok {ρ : Type} (k : Nat) : GOK Tryd.prog (cadastrelaw0_Light_G (ρ := ρ) k) := gok_nil
noncomputable def cadastrelaw0_Light_l5_s {ρ : Type} (k : Nat) : Run UX ρ := fun s K =>
popS 0 s.env fun v1 e2 =>
as_l23 v1 fun l0 =>
popS 1 e2 fun v3 e4 =>
asI .i64 v3 fun most1 =>
popS 5 e4 fun v5 e6 =>
asI .i64 v5 fun n5 =>
popS 6 e6 fun v7 e8 =>
asI .i64 v7 fun i6 =>
popN e8 <|
popN s.hp <|
cadastrelaw0_Light_l5 k (fun most1 n5 => K (.exit 0) ⟨[(1, .pv (.int .i64 most1)), (5, .pv (.int .i64 n5))], []⟩) k l0 most1 n5 i6
noncomputable def cadastrelaw0_Light_cfg {ρ : Type} (k : Nat) : Cfg UX ρ where
  live i := (assoc [(0, [0, 1]), (1, [0, 1]), (2, []), (3, [0, 1]), (4, [0, 1, 5]), (5, [0, 1, 5, 6]), (6, [0, 1, 5, 6]), (7, [0, 1, 5, 6]), (8, [1, 5])] i).getD []
  boxes i := (assoc [(0, []), (1, []), (2, []), (3, []), (4, []), (5, []), (6, []), (7, []), (8, [])] i).getD []
  tk i := (assoc [] i).getD []
  n := 27
  labelR l := (assoc [] l).getD 0
  loops := assoc [(5, cadastrelaw0_Light_l5_s k)]
  labels := assoc []
  joins := assoc []
  xl i e := match e with
    | .nxt => assoc [] i
    | .ret => assoc [] i
    | .exit j => (assoc [(5, [(0, ([1, 5], []))])] i).bind fun l => assoc l j
    | .goto j => (assoc [] i).bind fun l => assoc l j
noncomputable def cadastrelaw0_Light_L : List Code := selI [5] (loopsOf cadastrelaw0_Light_code)
noncomputable def cadastrelaw0_Light_J : List Code := selI [] (joinsOf cadastrelaw0_Light_code)
noncomputable def cadastrelaw0_Light_S : List Code := scopesOf cadastrelaw0_Light_code
theorem cadastrelaw0_Light_l5_eq0 {ρ : Type} (k : Nat) (K : Ex → St UU → Option ρ) : ∀ (n : Nat) (v : (List S23) × Int × Int × Int), iterK UX (fun s => s.at (cadastrelaw0_Light_cfg (ρ := ρ) k).live (cadastrelaw0_Light_cfg (ρ := ρ) k).boxes (some 5)) (exec UX (cadastrelaw0_Light_cfg k) (cadastrelaw0_Light_G k) (cadastrelaw0_Light_L.getD 0 .skip)) n ⟨[(0, .pv (.typ (.l23 v.1))), (1, .pv (.int .i64 v.2.1)), (5, .pv (.int .i64 v.2.2.1)), (6, .pv (.int .i64 v.2.2.2))], []⟩ (nrmK UX (cadastrelaw0_Light_cfg k) 5 K) = cadastrelaw0_Light_l5 k (fun most1 n5 => K (.exit 0) ⟨[(1, .pv (.int .i64 most1)), (5, .pv (.int .i64 n5))], []⟩) n v.1 v.2.1 v.2.2.1 v.2.2.2 :=
  iter_rec (X := UX) (fun v => ⟨[(0, .pv (.typ (.l23 v.1))), (1, .pv (.int .i64 v.2.1)), (5, .pv (.int .i64 v.2.2.1)), (6, .pv (.int .i64 v.2.2.2))], []⟩) (fun rec v => cadastrelaw0_Light_l5_b k (fun most1 n5 => K (.exit 0) ⟨[(1, .pv (.int .i64 most1)), (5, .pv (.int .i64 n5))], []⟩) (fun l0 most1 n5 i6 => rec (l0, most1, n5, i6)) v.1 v.2.1 v.2.2.1 v.2.2.2) (fun n v => cadastrelaw0_Light_l5 k (fun most1 n5 => K (.exit 0) ⟨[(1, .pv (.int .i64 most1)), (5, .pv (.int .i64 n5))], []⟩) n v.1 v.2.1 v.2.2.1 v.2.2.2) (fun n v => by kernel_rfl) (fun _ => rfl) (fun _ _ => rfl)
theorem cadastrelaw0_Light_l5_ok0 {ρ : Type} (k : Nat) : IterOK UX (cadastrelaw0_Light_cfg (ρ := ρ) k) (cadastrelaw0_Light_G k) (cadastrelaw0_Light_L.getD 0 .skip) 5 (cadastrelaw0_Light_l5_s k) := by
  intro s K r h
  obtain ⟨env, hp⟩ := s
  unfold cadastrelaw0_Light_l5_s at h
  replace h := popS_inv h; obtain ⟨v1, e2, rfl, h⟩ := h
  replace h := as_l23_inv h; obtain ⟨l0, rfl, h⟩ := h
  replace h := popS_inv h; obtain ⟨v3, e4, rfl, h⟩ := h
  replace h := asI_inv h; obtain ⟨most1, rfl, h⟩ := h
  replace h := popS_inv h; obtain ⟨v5, e6, rfl, h⟩ := h
  replace h := asI_inv h; obtain ⟨n5, rfl, h⟩ := h
  replace h := popS_inv h; obtain ⟨v7, e8, rfl, h⟩ := h
  replace h := asI_inv h; obtain ⟨i6, rfl, h⟩ := h
  replace h := popN_inv h; obtain ⟨rfl, h⟩ := h
  replace h := popN_inv h; obtain ⟨rfl, h⟩ := h
  exact ⟨k, (cadastrelaw0_Light_l5_eq0 k K k (l0, most1, n5, i6)).trans h⟩
theorem cadastrelaw0_Light_cok {ρ : Type} (k : Nat) : COK (cadastrelaw0_Light_cfg (ρ := ρ) k) (cadastrelaw0_Light_G k) cadastrelaw0_Light_code :=
  cok_of (tl := [(5, cadastrelaw0_Light_l5_s k)]) (tj := []) (tb := []) rfl rfl rfl (all_nth 1 (by kernel_rfl) ⟨iter_case (by kernel_rfl) rfl (cadastrelaw0_Light_l5_ok0 k), trivial⟩) (nil_all (by kernel_rfl)) (fun p hp => by cases hp)
noncomputable def cadastrelaw0_Light_enc (r : Bool) : AV UU := .pv (.bool r)
noncomputable def cadastrelaw0_Light_dec (v : AV UU) (_ : List (List (AV UU))) : Option Bool :=
asB v fun r0 =>
some r0
theorem cadastrelaw0_Light_dec_enc (v : AV UU) (b : List (List (AV UU))) (r : Bool) (h : cadastrelaw0_Light_dec v b = some r) : v = cadastrelaw0_Light_enc r := by
  unfold cadastrelaw0_Light_dec at h
  replace h := asB_inv h; obtain ⟨r0, rfl, h⟩ := h
  cases h
  rfl
theorem cadastrelaw0_Light_eq (k : Nat) (l0 : List S23) (most1 : Int) : bodyK UX (cadastrelaw0_Light_cfg k) (cadastrelaw0_Light_G k) Tryd.f22 [.pv (.typ (.l23 l0)), .pv (.int .i64 most1)] [] cadastrelaw0_Light_dec = cadastrelaw0_Light k l0 most1 := by kernel_rfl
theorem cadastrelaw0_Light_con (k : Nat) (l0 : List S23) (most1 : Int) (r : Bool) (h : cadastrelaw0_Light k l0 most1 = some r) : Con (X := UX) Tryd.prog 22 [.pv (.typ (.l23 l0)), .pv (.int .i64 most1)] [] (cadastrelaw0_Light_enc r) [] :=
  con_of_body xok tok Tryd.func22 cadastrelaw0_Light_body (cadastrelaw0_Light_gok k) rfl (cadastrelaw0_Light_cok k) (of_decide_eq_true (by kernel_rfl)) cadastrelaw0_Light_dec_enc ((cadastrelaw0_Light_eq k l0 most1).trans h)
noncomputable def cadastrelaw0_Light_an {ρ : Type} (k : Nat) : An UX ρ := fun args bx K =>
popA args fun v1 a2 =>
as_l23 v1 fun l0 =>
popA a2 fun v3 a4 =>
asI .i64 v3 fun most1 =>
popN a4 <|
popN bx <|
(cadastrelaw0_Light k l0 most1).bind fun r => K (cadastrelaw0_Light_enc r) []
theorem cadastrelaw0_Light_ok {ρ : Type} (k : Nat) : AnsOK Tryd.prog 22 (cadastrelaw0_Light_an (ρ := ρ) k) := by
  intro args bx K r h
  unfold cadastrelaw0_Light_an at h
  replace h := popA_inv h; obtain ⟨v1, a2, rfl, h⟩ := h
  replace h := as_l23_inv h; obtain ⟨l0, rfl, h⟩ := h
  replace h := popA_inv h; obtain ⟨v3, a4, rfl, h⟩ := h
  replace h := asI_inv h; obtain ⟨most1, rfl, h⟩ := h
  replace h := popN_inv h; obtain ⟨rfl, h⟩ := h
  replace h := popN_inv h; obtain ⟨rfl, h⟩ := h
  replace h := bind_inv h
  obtain ⟨x, hx, h⟩ := h
  exact ⟨there_of Tryd.func22 (by kernel_rfl) cadastrelaw0_Light_body, _, _, h, cadastrelaw0_Light_con k l0 most1 x hx⟩

/-! cadastre/cadastrelaw23.Heavy -/
noncomputable def cadastrelaw23_Heavy_code : Code := match Tryd.f10.body with | some c => c | none => .skip
theorem cadastrelaw23_Heavy_body : Tryd.f10.body = some cadastrelaw23_Heavy_code := by kernel_rfl
noncomputable def cadastrelaw23_Heavy_G {ρ : Type} (k : Nat) : Ans UX ρ := gk 21 (cadastrelaw21_Weight_an k) (gk 22 (cadastrelaw0_Light_an k) (gnil))
theorem cadastrelaw23_Heavy_gok {ρ : Type} (k : Nat) : GOK Tryd.prog (cadastrelaw23_Heavy_G (ρ := ρ) k) := gok_cons (cadastrelaw21_Weight_ok k) (gok_cons (cadastrelaw0_Light_ok k) (gok_nil))
noncomputable def cadastrelaw23_Heavy_cfg {ρ : Type} (k : Nat) : Cfg UX ρ where
  live i := (assoc [(0, [0]), (1, [1])] i).getD []
  boxes i := (assoc [(0, []), (1, [1])] i).getD []
  tk i := (assoc [] i).getD []
  n := 14
  labelR l := (assoc [] l).getD 0
  loops := assoc []
  labels := assoc []
  joins := assoc []
  xl i e := match e with
    | .nxt => assoc [] i
    | .ret => assoc [] i
    | .exit j => (assoc [] i).bind fun l => assoc l j
    | .goto j => (assoc [] i).bind fun l => assoc l j
noncomputable def cadastrelaw23_Heavy_L : List Code := selI [] (loopsOf cadastrelaw23_Heavy_code)
noncomputable def cadastrelaw23_Heavy_J : List Code := selI [] (joinsOf cadastrelaw23_Heavy_code)
noncomputable def cadastrelaw23_Heavy_S : List Code := scopesOf cadastrelaw23_Heavy_code
theorem cadastrelaw23_Heavy_cok {ρ : Type} (k : Nat) : COK (cadastrelaw23_Heavy_cfg (ρ := ρ) k) (cadastrelaw23_Heavy_G k) cadastrelaw23_Heavy_code :=
  cok_of (tl := []) (tj := []) (tb := []) rfl rfl rfl (nil_all (by kernel_rfl)) (nil_all (by kernel_rfl)) (fun p hp => by cases hp)
noncomputable def cadastrelaw23_Heavy_enc (r : Bool) : AV UU := .pv (.bool r)
noncomputable def cadastrelaw23_Heavy_dec (v : AV UU) (_ : List (List (AV UU))) : Option Bool :=
asB v fun r0 =>
some r0
theorem cadastrelaw23_Heavy_dec_enc (v : AV UU) (b : List (List (AV UU))) (r : Bool) (h : cadastrelaw23_Heavy_dec v b = some r) : v = cadastrelaw23_Heavy_enc r := by
  unfold cadastrelaw23_Heavy_dec at h
  replace h := asB_inv h; obtain ⟨r0, rfl, h⟩ := h
  cases h
  rfl
theorem cadastrelaw23_Heavy_eq (k : Nat) (p0 : S37) : bodyK UX (cadastrelaw23_Heavy_cfg k) (cadastrelaw23_Heavy_G k) Tryd.f10 [.pv (.typ (.s37 p0))] [] cadastrelaw23_Heavy_dec = cadastrelaw23_Heavy k p0 := by kernel_rfl
theorem cadastrelaw23_Heavy_con (k : Nat) (p0 : S37) (r : Bool) (h : cadastrelaw23_Heavy k p0 = some r) : Con (X := UX) Tryd.prog 10 [.pv (.typ (.s37 p0))] [] (cadastrelaw23_Heavy_enc r) [] :=
  con_of_body xok tok Tryd.func10 cadastrelaw23_Heavy_body (cadastrelaw23_Heavy_gok k) rfl (cadastrelaw23_Heavy_cok k) (of_decide_eq_true (by kernel_rfl)) cadastrelaw23_Heavy_dec_enc ((cadastrelaw23_Heavy_eq k p0).trans h)
noncomputable def cadastrelaw23_Heavy_an {ρ : Type} (k : Nat) : An UX ρ := fun args bx K =>
popA args fun v1 a2 =>
as_s37 v1 fun p0 =>
popN a2 <|
popN bx <|
(cadastrelaw23_Heavy k p0).bind fun r => K (cadastrelaw23_Heavy_enc r) []
theorem cadastrelaw23_Heavy_ok {ρ : Type} (k : Nat) : AnsOK Tryd.prog 10 (cadastrelaw23_Heavy_an (ρ := ρ) k) := by
  intro args bx K r h
  unfold cadastrelaw23_Heavy_an at h
  replace h := popA_inv h; obtain ⟨v1, a2, rfl, h⟩ := h
  replace h := as_s37_inv h; obtain ⟨p0, rfl, h⟩ := h
  replace h := popN_inv h; obtain ⟨rfl, h⟩ := h
  replace h := popN_inv h; obtain ⟨rfl, h⟩ := h
  replace h := bind_inv h
  obtain ⟨x, hx, h⟩ := h
  exact ⟨there_of Tryd.func10 (by kernel_rfl) cadastrelaw23_Heavy_body, _, _, h, cadastrelaw23_Heavy_con k p0 x hx⟩

/-! cadastre/value.Good -/
noncomputable def value_Good_code : Code := match Tryd.f61.body with | some c => c | none => .skip
theorem value_Good_body : Tryd.f61.body = some value_Good_code := by kernel_rfl
noncomputable def value_Good_G {ρ : Type} (k : Nat) : Ans UX ρ := gnil
theorem value_Good_gok {ρ : Type} (k : Nat) : GOK Tryd.prog (value_Good_G (ρ := ρ) k) := gok_nil
noncomputable def value_Good_j8_s {ρ : Type} (k : Nat) : Run UX ρ := fun s K =>
popS 1 s.env fun v1 e2 =>
asP 1 0 v1 <|
popN e2 <|
popB 1 s.hp fun c3 e4 =>
popA c3 fun v5 c6 =>
asI .i64 v5 fun z7 =>
popA c6 fun v8 c9 =>
asI .i64 v8 fun z10 =>
popA c9 fun v11 c12 =>
asS v11 fun z13 =>
popN c12 <|
popN e4 <|
value_Good_j8 k (fun t2 => K .ret ⟨[(2, .pv (.bool t2))], []⟩) (⟨z7, z10, z13⟩ : S23)
noncomputable def value_Good_cfg {ρ : Type} (k : Nat) : Cfg UX ρ where
  live i := (assoc [(0, [0]), (1, [1]), (2, [1, 4]), (3, [1]), (4, [1, 4]), (5, [1]), (6, [1, 4]), (7, [1, 4]), (8, [1]), (9, [])] i).getD []
  boxes i := (assoc [(0, []), (1, [1]), (2, [1]), (3, [1]), (4, [1]), (5, [1]), (6, [1]), (7, [1]), (8, [1]), (9, [])] i).getD []
  tk i := (assoc [] i).getD []
  n := 27
  labelR l := (assoc [] l).getD 0
  loops := assoc []
  labels := assoc []
  joins := assoc [(8, value_Good_j8_s k)]
  xl i e := match e with
    | .nxt => assoc [] i
    | .ret => assoc [(8, ([2], []))] i
    | .exit j => (assoc [] i).bind fun l => assoc l j
    | .goto j => (assoc [] i).bind fun l => assoc l j
noncomputable def value_Good_L : List Code := selI [] (loopsOf value_Good_code)
noncomputable def value_Good_J : List Code := selI [8] (joinsOf value_Good_code)
noncomputable def value_Good_S : List Code := scopesOf value_Good_code
theorem value_Good_j8_eq0 {ρ : Type} (k : Nat) (K : Ex → St UU → Option ρ) (v1 : S23) : exec UX (value_Good_cfg k) (value_Good_G k) (value_Good_J.getD 0 .skip) ⟨[(1, .ptr 1 0)], [(1, [.pv (.int .i64 v1.f0), .pv (.int .i64 v1.f1), .pv (.str v1.f2)])]⟩ (nrmK UX (value_Good_cfg k) 8 K) = value_Good_j8 k (fun t2 => K .ret ⟨[(2, .pv (.bool t2))], []⟩) v1 := by kernel_rfl
theorem value_Good_j8_ok0 {ρ : Type} (k : Nat) : JoinOK UX (value_Good_cfg (ρ := ρ) k) (value_Good_G k) (value_Good_J.getD 0 .skip) 8 (value_Good_j8_s k) := by
  intro s K r h
  obtain ⟨env, hp⟩ := s
  unfold value_Good_j8_s at h
  replace h := popS_inv h; obtain ⟨v1, e2, rfl, h⟩ := h
  replace h := asP_inv h; obtain ⟨rfl, h⟩ := h
  replace h := popN_inv h; obtain ⟨rfl, h⟩ := h
  replace h := popB_inv h; obtain ⟨c3, e4, rfl, h⟩ := h
  replace h := popA_inv h; obtain ⟨v5, c6, rfl, h⟩ := h
  replace h := asI_inv h; obtain ⟨z7, rfl, h⟩ := h
  replace h := popA_inv h; obtain ⟨v8, c9, rfl, h⟩ := h
  replace h := asI_inv h; obtain ⟨z10, rfl, h⟩ := h
  replace h := popA_inv h; obtain ⟨v11, c12, rfl, h⟩ := h
  replace h := asS_inv h; obtain ⟨z13, rfl, h⟩ := h
  replace h := popN_inv h; obtain ⟨rfl, h⟩ := h
  replace h := popN_inv h; obtain ⟨rfl, h⟩ := h
  exact (value_Good_j8_eq0 k K (⟨z7, z10, z13⟩ : S23)).trans h
theorem value_Good_cok {ρ : Type} (k : Nat) : COK (value_Good_cfg (ρ := ρ) k) (value_Good_G k) value_Good_code :=
  cok_of (tl := []) (tj := [(8, value_Good_j8_s k)]) (tb := []) rfl rfl rfl (nil_all (by kernel_rfl)) (all_nth 1 (by kernel_rfl) ⟨join_case (by kernel_rfl) rfl (value_Good_j8_ok0 k), trivial⟩) (fun p hp => by cases hp)
noncomputable def value_Good_enc (r : Bool) : AV UU := .pv (.bool r)
noncomputable def value_Good_dec (v : AV UU) (_ : List (List (AV UU))) : Option Bool :=
asB v fun r0 =>
some r0
theorem value_Good_dec_enc (v : AV UU) (b : List (List (AV UU))) (r : Bool) (h : value_Good_dec v b = some r) : v = value_Good_enc r := by
  unfold value_Good_dec at h
  replace h := asB_inv h; obtain ⟨r0, rfl, h⟩ := h
  cases h
  rfl
theorem value_Good_eq (k : Nat) (v0 : S23) : bodyK UX (value_Good_cfg k) (value_Good_G k) Tryd.f61 [.pv (.typ (.s23 v0))] [] value_Good_dec = value_Good k v0 := by kernel_rfl
theorem value_Good_con (k : Nat) (v0 : S23) (r : Bool) (h : value_Good k v0 = some r) : Con (X := UX) Tryd.prog 61 [.pv (.typ (.s23 v0))] [] (value_Good_enc r) [] :=
  con_of_body xok tok Tryd.func61 value_Good_body (value_Good_gok k) rfl (value_Good_cok k) (of_decide_eq_true (by kernel_rfl)) value_Good_dec_enc ((value_Good_eq k v0).trans h)
noncomputable def value_Good_an {ρ : Type} (k : Nat) : An UX ρ := fun args bx K =>
popA args fun v1 a2 =>
as_s23 v1 fun v0 =>
popN a2 <|
popN bx <|
(value_Good k v0).bind fun r => K (value_Good_enc r) []
theorem value_Good_ok {ρ : Type} (k : Nat) : AnsOK Tryd.prog 61 (value_Good_an (ρ := ρ) k) := by
  intro args bx K r h
  unfold value_Good_an at h
  replace h := popA_inv h; obtain ⟨v1, a2, rfl, h⟩ := h
  replace h := as_s23_inv h; obtain ⟨v0, rfl, h⟩ := h
  replace h := popN_inv h; obtain ⟨rfl, h⟩ := h
  replace h := popN_inv h; obtain ⟨rfl, h⟩ := h
  replace h := bind_inv h
  obtain ⟨x, hx, h⟩ := h
  exact ⟨there_of Tryd.func61 (by kernel_rfl) value_Good_body, _, _, h, value_Good_con k v0 x hx⟩

/-! cadastre/value.All -/
noncomputable def value_All_code : Code := match Tryd.f38.body with | some c => c | none => .skip
theorem value_All_body : Tryd.f38.body = some value_All_code := by kernel_rfl
noncomputable def value_All_G {ρ : Type} (k : Nat) : Ans UX ρ := gk 61 (value_Good_an k) (gnil)
theorem value_All_gok {ρ : Type} (k : Nat) : GOK Tryd.prog (value_All_G (ρ := ρ) k) := gok_cons (value_Good_ok k) (gok_nil)
noncomputable def value_All_j2_s {ρ : Type} (k : Nat) : Run UX ρ := fun s K =>
popS 0 s.env fun v1 e2 =>
as_l23 v1 fun l0 =>
popS 3 e2 fun v3 e4 =>
asI .i64 v3 fun i3 =>
popN e4 <|
popN s.hp <|
value_All_j2 k (fun t2 => K .ret ⟨[(2, .pv (.bool t2))], []⟩) (fun l0 i3 => K (.goto 0) ⟨[(0, .pv (.typ (.l23 l0))), (3, .pv (.int .i64 i3))], []⟩) l0 i3
noncomputable def value_All_g0_s {ρ : Type} (k : Nat) : Run UX ρ := fun s K =>
popS 0 s.env fun v1 e2 =>
as_l23 v1 fun l0 =>
popS 3 e2 fun v3 e4 =>
asI .i64 v3 fun i3 =>
popN e4 <|
popN s.hp <|
value_All_g0 k (fun t2 => K .ret ⟨[(2, .pv (.bool t2))], []⟩) k l0 i3
noncomputable def value_All_cfg {ρ : Type} (k : Nat) : Cfg UX ρ where
  live i := (assoc [(0, [0]), (1, [0]), (2, [0, 3]), (3, []), (4, [0, 3]), (5, [0, 3]), (6, [])] i).getD []
  boxes i := (assoc [(0, []), (1, []), (2, []), (3, []), (4, []), (5, []), (6, [])] i).getD []
  tk i := (assoc [] i).getD []
  n := 15
  labelR l := (assoc [(0, 2)] l).getD 0
  loops := assoc []
  labels := assoc [(0, value_All_g0_s k)]
  joins := assoc [(2, value_All_j2_s k)]
  xl i e := match e with
    | .nxt => assoc [] i
    | .ret => assoc [(2, ([2], [])), (2, ([2], []))] i
    | .exit j => (assoc [] i).bind fun l => assoc l j
    | .goto j => (assoc [(2, [(0, ([0, 3], []))])] i).bind fun l => assoc l j
noncomputable def value_All_L : List Code := selI [] (loopsOf value_All_code)
noncomputable def value_All_J : List Code := selI [2] (joinsOf value_All_code)
noncomputable def value_All_S : List Code := scopesOf value_All_code
theorem value_All_j2_eq0 {ρ : Type} (k : Nat) (K : Ex → St UU → Option ρ) (l0 : List S23) (i3 : Int) : exec UX (value_All_cfg k) (value_All_G k) (value_All_J.getD 0 .skip) ⟨[(0, .pv (.typ (.l23 l0))), (3, .pv (.int .i64 i3))], []⟩ (nrmK UX (value_All_cfg k) 2 K) = value_All_j2 k (fun t2 => K .ret ⟨[(2, .pv (.bool t2))], []⟩) (fun l0 i3 => K (.goto 0) ⟨[(0, .pv (.typ (.l23 l0))), (3, .pv (.int .i64 i3))], []⟩) l0 i3 := by kernel_rfl
theorem value_All_j2_ok0 {ρ : Type} (k : Nat) : JoinOK UX (value_All_cfg (ρ := ρ) k) (value_All_G k) (value_All_J.getD 0 .skip) 2 (value_All_j2_s k) := by
  intro s K r h
  obtain ⟨env, hp⟩ := s
  unfold value_All_j2_s at h
  replace h := popS_inv h; obtain ⟨v1, e2, rfl, h⟩ := h
  replace h := as_l23_inv h; obtain ⟨l0, rfl, h⟩ := h
  replace h := popS_inv h; obtain ⟨v3, e4, rfl, h⟩ := h
  replace h := asI_inv h; obtain ⟨i3, rfl, h⟩ := h
  replace h := popN_inv h; obtain ⟨rfl, h⟩ := h
  replace h := popN_inv h; obtain ⟨rfl, h⟩ := h
  exact (value_All_j2_eq0 k K l0 i3).trans h
noncomputable def value_All_g0_f0 {ρ : Type} (k : Nat) : Run UX ρ := (suff UX (value_All_cfg k) (value_All_G k) (value_All_S.getD 0 .skip) 0).getD fun _ _ => none
theorem value_All_g0_eq0 {ρ : Type} (k : Nat) (K : Ex → St UU → Option ρ) : ∀ (n : Nat) (v : (List S23) × Int), scopeN UX (fun l s => s.at (value_All_cfg (ρ := ρ) k).live (value_All_cfg (ρ := ρ) k).boxes (some ((value_All_cfg (ρ := ρ) k).labelR l))) (suff UX (value_All_cfg k) (value_All_G k) (value_All_S.getD 0 .skip)) (fun l => ((value_All_cfg (ρ := ρ) k).labels l).isSome) n (value_All_g0_f0 k) ⟨[(0, .pv (.typ (.l23 v.1))), (3, .pv (.int .i64 v.2))], []⟩ (nrmK UX (value_All_cfg k) ((value_All_cfg (ρ := ρ) k).labelR 0) K) = value_All_g0 k (fun t2 => K .ret ⟨[(2, .pv (.bool t2))], []⟩) n v.1 v.2 :=
  scope_rec (X := UX) (fun _ => value_All_g0_f0 k) (fun v => ⟨[(0, .pv (.typ (.l23 v.1))), (3, .pv (.int .i64 v.2))], []⟩) (fun rec v => value_All_g0_b k (fun t2 => K .ret ⟨[(2, .pv (.bool t2))], []⟩) (fun l0 i3 => rec (l0, i3)) v.1 v.2) (fun n v => value_All_g0 k (fun t2 => K .ret ⟨[(2, .pv (.bool t2))], []⟩) n v.1 v.2) (fun n v => by kernel_rfl) (fun _ => rfl) (fun _ _ => rfl)
theorem value_All_g0_ok0 {ρ : Type} (k : Nat) : LabOK UX (value_All_cfg (ρ := ρ) k) (value_All_G k) (value_All_S.getD 0 .skip) 0 (value_All_g0_s k) := by
  intro f hf s K r h
  have hf : value_All_g0_f0 k = f := by unfold value_All_g0_f0; rw [hf]; rfl
  subst hf
  obtain ⟨env, hp⟩ := s
  unfold value_All_g0_s at h
  replace h := popS_inv h; obtain ⟨v1, e2, rfl, h⟩ := h
  replace h := as_l23_inv h; obtain ⟨l0, rfl, h⟩ := h
  replace h := popS_inv h; obtain ⟨v3, e4, rfl, h⟩ := h
  replace h := asI_inv h; obtain ⟨i3, rfl, h⟩ := h
  replace h := popN_inv h; obtain ⟨rfl, h⟩ := h
  replace h := popN_inv h; obtain ⟨rfl, h⟩ := h
  exact ⟨k, (value_All_g0_eq0 k K k (l0, i3)).trans h⟩
theorem value_All_cok {ρ : Type} (k : Nat) : COK (value_All_cfg (ρ := ρ) k) (value_All_G k) value_All_code :=
  cok_of (tl := []) (tj := [(2, value_All_j2_s k)]) (tb := [(0, value_All_g0_s k)]) rfl rfl rfl (nil_all (by kernel_rfl)) (all_nth 1 (by kernel_rfl) ⟨join_case (by kernel_rfl) rfl (value_All_j2_ok0 k), trivial⟩) (fun p hp => by
    simp only [List.mem_cons, List.not_mem_nil, or_false] at hp
    subst hp
    · exact all_nth 1 (by kernel_rfl) ⟨value_All_g0_ok0 k, trivial⟩)
noncomputable def value_All_enc (r : Bool) : AV UU := .pv (.bool r)
noncomputable def value_All_dec (v : AV UU) (_ : List (List (AV UU))) : Option Bool :=
asB v fun r0 =>
some r0
theorem value_All_dec_enc (v : AV UU) (b : List (List (AV UU))) (r : Bool) (h : value_All_dec v b = some r) : v = value_All_enc r := by
  unfold value_All_dec at h
  replace h := asB_inv h; obtain ⟨r0, rfl, h⟩ := h
  cases h
  rfl
theorem value_All_eq (k : Nat) (l0 : List S23) : bodyK UX (value_All_cfg k) (value_All_G k) Tryd.f38 [.pv (.typ (.l23 l0))] [] value_All_dec = value_All k l0 := by kernel_rfl
theorem value_All_con (k : Nat) (l0 : List S23) (r : Bool) (h : value_All k l0 = some r) : Con (X := UX) Tryd.prog 38 [.pv (.typ (.l23 l0))] [] (value_All_enc r) [] :=
  con_of_body xok tok Tryd.func38 value_All_body (value_All_gok k) rfl (value_All_cok k) (of_decide_eq_true (by kernel_rfl)) value_All_dec_enc ((value_All_eq k l0).trans h)
noncomputable def value_All_an {ρ : Type} (k : Nat) : An UX ρ := fun args bx K =>
popA args fun v1 a2 =>
as_l23 v1 fun l0 =>
popN a2 <|
popN bx <|
(value_All k l0).bind fun r => K (value_All_enc r) []
theorem value_All_ok {ρ : Type} (k : Nat) : AnsOK Tryd.prog 38 (value_All_an (ρ := ρ) k) := by
  intro args bx K r h
  unfold value_All_an at h
  replace h := popA_inv h; obtain ⟨v1, a2, rfl, h⟩ := h
  replace h := as_l23_inv h; obtain ⟨l0, rfl, h⟩ := h
  replace h := popN_inv h; obtain ⟨rfl, h⟩ := h
  replace h := popN_inv h; obtain ⟨rfl, h⟩ := h
  replace h := bind_inv h
  obtain ⟨x, hx, h⟩ := h
  exact ⟨there_of Tryd.func38 (by kernel_rfl) value_All_body, _, _, h, value_All_con k l0 x hx⟩

noncomputable def bind_Low_code : Code := match Tryd.f62.body with | some c => c | none => .skip
theorem bind_Low_body : Tryd.f62.body = some bind_Low_code := by kernel_rfl
noncomputable def bind_Low_enc (r : Bool) : AV UU := .pv (.bool r)
structure bind_Low_R_ok (rc : bind_Low_R) : Prop where
  bind_Low : ∀ (e0 : S25) (high1 : Int) (r : Bool), rc.bind_Low e0 high1 = some r → Con (X := UX) Tryd.prog 62 [.pv (.typ (.s25 e0)), .pv (.int .i64 high1)] [] (bind_Low_enc r) []
noncomputable def bind_Low_ran {ρ : Type} (rc : bind_Low_R) : An UX ρ := fun args bx K =>
popA args fun v1 a2 =>
as_s25 v1 fun e0 =>
popA a2 fun v3 a4 =>
asI .i64 v3 fun high1 =>
popN a4 <|
popN bx <|
(rc.bind_Low e0 high1).bind fun r => K (bind_Low_enc r) []
theorem bind_Low_rok {ρ : Type} (rc : bind_Low_R) (hrc : bind_Low_R_ok rc) : AnsOK Tryd.prog 62 (bind_Low_ran (ρ := ρ) rc) := by
  intro args bx K r h
  unfold bind_Low_ran at h
  replace h := popA_inv h; obtain ⟨v1, a2, rfl, h⟩ := h
  replace h := as_s25_inv h; obtain ⟨e0, rfl, h⟩ := h
  replace h := popA_inv h; obtain ⟨v3, a4, rfl, h⟩ := h
  replace h := asI_inv h; obtain ⟨high1, rfl, h⟩ := h
  replace h := popN_inv h; obtain ⟨rfl, h⟩ := h
  replace h := popN_inv h; obtain ⟨rfl, h⟩ := h
  replace h := bind_inv h
  obtain ⟨x, hx, h⟩ := h
  exact ⟨there_of Tryd.func62 (by kernel_rfl) bind_Low_body, _, _, h, hrc.bind_Low e0 high1 x hx⟩
/-! cadastre/bind.Low -/
noncomputable def bind_Low_G {ρ : Type} (k : Nat) (rc : bind_Low_R) : Ans UX ρ := gk 62 (bind_Low_ran rc) (gnil)
theorem bind_Low_gok {ρ : Type} (k : Nat) (rc : bind_Low_R) (hrc : bind_Low_R_ok rc) : GOK Tryd.prog (bind_Low_G (ρ := ρ) k rc) := gok_cons (bind_Low_rok rc hrc) (gok_nil)
noncomputable def bind_Low_l4_s {ρ : Type} (k : Nat) (rc : bind_Low_R) : Run UX ρ := fun s K =>
popS 1 s.env fun v1 e2 =>
asI .i64 v1 fun high1 =>
popS 10 e2 fun v3 e4 =>
as_l25 v3 fun t10 =>
popS 11 e4 fun v5 e6 =>
asI .i64 v5 fun t11 =>
popS 12 e6 fun v7 e8 =>
asI .i64 v7 fun t12 =>
popN e8 <|
popN s.hp <|
bind_Low_l4 k rc (fun t4 => K .ret ⟨[(4, .pv (.bool t4))], []⟩) (K (.exit 0) ⟨[], []⟩) k high1 t10 t11 t12
noncomputable def bind_Low_cfg {ρ : Type} (k : Nat) (rc : bind_Low_R) : Cfg UX ρ where
  live i := (assoc [(0, [0, 1]), (1, [1, 2]), (2, []), (3, [1, 2]), (4, [1, 10, 11, 12]), (5, [1, 10, 11, 12]), (6, [1, 6, 10, 11, 12]), (7, []), (8, [1, 10, 11, 12]), (9, [])] i).getD []
  boxes i := (assoc [(0, []), (1, [2]), (2, []), (3, [2]), (4, []), (5, []), (6, [6]), (7, []), (8, []), (9, [])] i).getD []
  tk i := (assoc [] i).getD []
  n := 22
  labelR l := (assoc [] l).getD 0
  loops := assoc [(4, bind_Low_l4_s k rc)]
  labels := assoc []
  joins := assoc []
  xl i e := match e with
    | .nxt => assoc [] i
    | .ret => assoc [(4, ([4], []))] i
    | .exit j => (assoc [(4, [(0, ([], []))])] i).bind fun l => assoc l j
    | .goto j => (assoc [] i).bind fun l => assoc l j
noncomputable def bind_Low_L : List Code := selI [4] (loopsOf bind_Low_code)
noncomputable def bind_Low_J : List Code := selI [] (joinsOf bind_Low_code)
noncomputable def bind_Low_S : List Code := scopesOf bind_Low_code
theorem bind_Low_l4_eq0 {ρ : Type} (k : Nat) (rc : bind_Low_R) (K : Ex → St UU → Option ρ) : ∀ (n : Nat) (v : Int × (List T25) × Int × Int), iterK UX (fun s => s.at (bind_Low_cfg (ρ := ρ) k rc).live (bind_Low_cfg (ρ := ρ) k rc).boxes (some 4)) (exec UX (bind_Low_cfg k rc) (bind_Low_G k rc) (bind_Low_L.getD 0 .skip)) n ⟨[(1, .pv (.int .i64 v.1)), (10, .pv (.typ (.l25 v.2.1))), (11, .pv (.int .i64 v.2.2.1)), (12, .pv (.int .i64 v.2.2.2))], []⟩ (nrmK UX (bind_Low_cfg k rc) 4 K) = bind_Low_l4 k rc (fun t4 => K .ret ⟨[(4, .pv (.bool t4))], []⟩) (K (.exit 0) ⟨[], []⟩) n v.1 v.2.1 v.2.2.1 v.2.2.2 :=
  iter_rec (X := UX) (fun v => ⟨[(1, .pv (.int .i64 v.1)), (10, .pv (.typ (.l25 v.2.1))), (11, .pv (.int .i64 v.2.2.1)), (12, .pv (.int .i64 v.2.2.2))], []⟩) (fun rec v => bind_Low_l4_b k rc (fun t4 => K .ret ⟨[(4, .pv (.bool t4))], []⟩) (K (.exit 0) ⟨[], []⟩) (fun high1 t10 t11 t12 => rec (high1, t10, t11, t12)) v.1 v.2.1 v.2.2.1 v.2.2.2) (fun n v => bind_Low_l4 k rc (fun t4 => K .ret ⟨[(4, .pv (.bool t4))], []⟩) (K (.exit 0) ⟨[], []⟩) n v.1 v.2.1 v.2.2.1 v.2.2.2) (fun n v => by kernel_rfl) (fun _ => rfl) (fun _ _ => rfl)
theorem bind_Low_l4_ok0 {ρ : Type} (k : Nat) (rc : bind_Low_R) : IterOK UX (bind_Low_cfg (ρ := ρ) k rc) (bind_Low_G k rc) (bind_Low_L.getD 0 .skip) 4 (bind_Low_l4_s k rc) := by
  intro s K r h
  obtain ⟨env, hp⟩ := s
  unfold bind_Low_l4_s at h
  replace h := popS_inv h; obtain ⟨v1, e2, rfl, h⟩ := h
  replace h := asI_inv h; obtain ⟨high1, rfl, h⟩ := h
  replace h := popS_inv h; obtain ⟨v3, e4, rfl, h⟩ := h
  replace h := as_l25_inv h; obtain ⟨t10, rfl, h⟩ := h
  replace h := popS_inv h; obtain ⟨v5, e6, rfl, h⟩ := h
  replace h := asI_inv h; obtain ⟨t11, rfl, h⟩ := h
  replace h := popS_inv h; obtain ⟨v7, e8, rfl, h⟩ := h
  replace h := asI_inv h; obtain ⟨t12, rfl, h⟩ := h
  replace h := popN_inv h; obtain ⟨rfl, h⟩ := h
  replace h := popN_inv h; obtain ⟨rfl, h⟩ := h
  exact ⟨k, (bind_Low_l4_eq0 k rc K k (high1, t10, t11, t12)).trans h⟩
theorem bind_Low_cok {ρ : Type} (k : Nat) (rc : bind_Low_R) : COK (bind_Low_cfg (ρ := ρ) k rc) (bind_Low_G k rc) bind_Low_code :=
  cok_of (tl := [(4, bind_Low_l4_s k rc)]) (tj := []) (tb := []) rfl rfl rfl (all_nth 1 (by kernel_rfl) ⟨iter_case (by kernel_rfl) rfl (bind_Low_l4_ok0 k rc), trivial⟩) (nil_all (by kernel_rfl)) (fun p hp => by cases hp)
noncomputable def bind_Low_dec (v : AV UU) (_ : List (List (AV UU))) : Option Bool :=
asB v fun r0 =>
some r0
theorem bind_Low_dec_enc (v : AV UU) (b : List (List (AV UU))) (r : Bool) (h : bind_Low_dec v b = some r) : v = bind_Low_enc r := by
  unfold bind_Low_dec at h
  replace h := asB_inv h; obtain ⟨r0, rfl, h⟩ := h
  cases h
  rfl
theorem bind_Low_eq (k : Nat) (rc : bind_Low_R) (e0 : S25) (high1 : Int) : bodyK UX (bind_Low_cfg k rc) (bind_Low_G k rc) Tryd.f62 [.pv (.typ (.s25 e0)), .pv (.int .i64 high1)] [] bind_Low_dec = bind_Low_r k rc e0 high1 := by kernel_rfl
theorem bind_Low_con_r (k : Nat) (rc : bind_Low_R) (hrc : bind_Low_R_ok rc) (e0 : S25) (high1 : Int) (r : Bool) (h : bind_Low_r k rc e0 high1 = some r) : Con (X := UX) Tryd.prog 62 [.pv (.typ (.s25 e0)), .pv (.int .i64 high1)] [] (bind_Low_enc r) [] :=
  con_of_body xok tok Tryd.func62 bind_Low_body (bind_Low_gok k rc hrc) rfl (bind_Low_cok k rc) (of_decide_eq_true (by kernel_rfl)) bind_Low_dec_enc ((bind_Low_eq k rc e0 high1).trans h)
theorem bind_Low_R_itok (k : Nat) : ∀ d, bind_Low_R_ok (bind_Low_R_it k d)
  | 0 => ⟨fun e0 high1 r h => by have e : (none : Option Bool) = some r := h; cases e⟩
  | d + 1 => ⟨fun e0 high1 r h => bind_Low_con_r k (bind_Low_R_it k d) (bind_Low_R_itok k d) e0 high1 r h⟩
theorem bind_Low_con (k : Nat) (e0 : S25) (high1 : Int) (r : Bool) (h : bind_Low k e0 high1 = some r) : Con (X := UX) Tryd.prog 62 [.pv (.typ (.s25 e0)), .pv (.int .i64 high1)] [] (bind_Low_enc r) [] := (bind_Low_R_itok k k).bind_Low e0 high1 r h
noncomputable def bind_Low_an {ρ : Type} (k : Nat) : An UX ρ := fun args bx K =>
popA args fun v1 a2 =>
as_s25 v1 fun e0 =>
popA a2 fun v3 a4 =>
asI .i64 v3 fun high1 =>
popN a4 <|
popN bx <|
(bind_Low k e0 high1).bind fun r => K (bind_Low_enc r) []
theorem bind_Low_ok {ρ : Type} (k : Nat) : AnsOK Tryd.prog 62 (bind_Low_an (ρ := ρ) k) := by
  intro args bx K r h
  unfold bind_Low_an at h
  replace h := popA_inv h; obtain ⟨v1, a2, rfl, h⟩ := h
  replace h := as_s25_inv h; obtain ⟨e0, rfl, h⟩ := h
  replace h := popA_inv h; obtain ⟨v3, a4, rfl, h⟩ := h
  replace h := asI_inv h; obtain ⟨high1, rfl, h⟩ := h
  replace h := popN_inv h; obtain ⟨rfl, h⟩ := h
  replace h := popN_inv h; obtain ⟨rfl, h⟩ := h
  replace h := bind_inv h
  obtain ⟨x, hx, h⟩ := h
  exact ⟨there_of Tryd.func62 (by kernel_rfl) bind_Low_body, _, _, h, bind_Low_con k e0 high1 x hx⟩

/-! cadastre/print.Aggregate -/
noncomputable def print_Aggregate_code : Code := match Tryd.f47.body with | some c => c | none => .skip
theorem print_Aggregate_body : Tryd.f47.body = some print_Aggregate_code := by kernel_rfl
noncomputable def print_Aggregate_G {ρ : Type} (k : Nat) : Ans UX ρ := gnil
theorem print_Aggregate_gok {ρ : Type} (k : Nat) : GOK Tryd.prog (print_Aggregate_G (ρ := ρ) k) := gok_nil
noncomputable def print_Aggregate_cfg {ρ : Type} (k : Nat) : Cfg UX ρ where
  live i := (assoc [(0, [0]), (1, [0])] i).getD []
  boxes i := (assoc [(0, []), (1, [])] i).getD []
  tk i := (assoc [] i).getD []
  n := 9
  labelR l := (assoc [] l).getD 0
  loops := assoc []
  labels := assoc []
  joins := assoc []
  xl i e := match e with
    | .nxt => assoc [] i
    | .ret => assoc [] i
    | .exit j => (assoc [] i).bind fun l => assoc l j
    | .goto j => (assoc [] i).bind fun l => assoc l j
noncomputable def print_Aggregate_L : List Code := selI [] (loopsOf print_Aggregate_code)
noncomputable def print_Aggregate_J : List Code := selI [] (joinsOf print_Aggregate_code)
noncomputable def print_Aggregate_S : List Code := scopesOf print_Aggregate_code
theorem print_Aggregate_cok {ρ : Type} (k : Nat) : COK (print_Aggregate_cfg (ρ := ρ) k) (print_Aggregate_G k) print_Aggregate_code :=
  cok_of (tl := []) (tj := []) (tb := []) rfl rfl rfl (nil_all (by kernel_rfl)) (nil_all (by kernel_rfl)) (fun p hp => by cases hp)
noncomputable def print_Aggregate_enc (r : Bool) : AV UU := .pv (.bool r)
noncomputable def print_Aggregate_dec (v : AV UU) (_ : List (List (AV UU))) : Option Bool :=
asB v fun r0 =>
some r0
theorem print_Aggregate_dec_enc (v : AV UU) (b : List (List (AV UU))) (r : Bool) (h : print_Aggregate_dec v b = some r) : v = print_Aggregate_enc r := by
  unfold print_Aggregate_dec at h
  replace h := asB_inv h; obtain ⟨r0, rfl, h⟩ := h
  cases h
  rfl
theorem print_Aggregate_eq (k : Nat) (op0 : Int) : bodyK UX (print_Aggregate_cfg k) (print_Aggregate_G k) Tryd.f47 [.pv (.int .i64 op0)] [] print_Aggregate_dec = print_Aggregate k op0 := by kernel_rfl
theorem print_Aggregate_con (k : Nat) (op0 : Int) (r : Bool) (h : print_Aggregate k op0 = some r) : Con (X := UX) Tryd.prog 47 [.pv (.int .i64 op0)] [] (print_Aggregate_enc r) [] :=
  con_of_body xok tok Tryd.func47 print_Aggregate_body (print_Aggregate_gok k) rfl (print_Aggregate_cok k) (of_decide_eq_true (by kernel_rfl)) print_Aggregate_dec_enc ((print_Aggregate_eq k op0).trans h)
noncomputable def print_Aggregate_an {ρ : Type} (k : Nat) : An UX ρ := fun args bx K =>
popA args fun v1 a2 =>
asI .i64 v1 fun op0 =>
popN a2 <|
popN bx <|
(print_Aggregate k op0).bind fun r => K (print_Aggregate_enc r) []
theorem print_Aggregate_ok {ρ : Type} (k : Nat) : AnsOK Tryd.prog 47 (print_Aggregate_an (ρ := ρ) k) := by
  intro args bx K r h
  unfold print_Aggregate_an at h
  replace h := popA_inv h; obtain ⟨v1, a2, rfl, h⟩ := h
  replace h := asI_inv h; obtain ⟨op0, rfl, h⟩ := h
  replace h := popN_inv h; obtain ⟨rfl, h⟩ := h
  replace h := popN_inv h; obtain ⟨rfl, h⟩ := h
  replace h := bind_inv h
  obtain ⟨x, hx, h⟩ := h
  exact ⟨there_of Tryd.func47 (by kernel_rfl) print_Aggregate_body, _, _, h, print_Aggregate_con k op0 x hx⟩

noncomputable def eval_places_code : Code := match Tryd.f63.body with | some c => c | none => .skip
theorem eval_places_body : Tryd.f63.body = some eval_places_code := by kernel_rfl
noncomputable def eval_places_enc (r : Bool) : AV UU := .pv (.bool r)
structure eval_places_R_ok (rc : eval_places_R) : Prop where
  eval_places : ∀ (e0 : S25) (n1 : Int) (r : Bool), rc.eval_places e0 n1 = some r → Con (X := UX) Tryd.prog 63 [.pv (.typ (.s25 e0)), .pv (.int .i64 n1)] [] (eval_places_enc r) []
noncomputable def eval_places_ran {ρ : Type} (rc : eval_places_R) : An UX ρ := fun args bx K =>
popA args fun v1 a2 =>
as_s25 v1 fun e0 =>
popA a2 fun v3 a4 =>
asI .i64 v3 fun n1 =>
popN a4 <|
popN bx <|
(rc.eval_places e0 n1).bind fun r => K (eval_places_enc r) []
theorem eval_places_rok {ρ : Type} (rc : eval_places_R) (hrc : eval_places_R_ok rc) : AnsOK Tryd.prog 63 (eval_places_ran (ρ := ρ) rc) := by
  intro args bx K r h
  unfold eval_places_ran at h
  replace h := popA_inv h; obtain ⟨v1, a2, rfl, h⟩ := h
  replace h := as_s25_inv h; obtain ⟨e0, rfl, h⟩ := h
  replace h := popA_inv h; obtain ⟨v3, a4, rfl, h⟩ := h
  replace h := asI_inv h; obtain ⟨n1, rfl, h⟩ := h
  replace h := popN_inv h; obtain ⟨rfl, h⟩ := h
  replace h := popN_inv h; obtain ⟨rfl, h⟩ := h
  replace h := bind_inv h
  obtain ⟨x, hx, h⟩ := h
  exact ⟨there_of Tryd.func63 (by kernel_rfl) eval_places_body, _, _, h, hrc.eval_places e0 n1 x hx⟩
/-! cadastre/eval.places -/
noncomputable def eval_places_G {ρ : Type} (k : Nat) (rc : eval_places_R) : Ans UX ρ := gk 47 (print_Aggregate_an k) (gk 63 (eval_places_ran rc) (gnil))
theorem eval_places_gok {ρ : Type} (k : Nat) (rc : eval_places_R) (hrc : eval_places_R_ok rc) : GOK Tryd.prog (eval_places_G (ρ := ρ) k rc) := gok_cons (print_Aggregate_ok k) (gok_cons (eval_places_rok rc hrc) (gok_nil))
noncomputable def eval_places_l7_s {ρ : Type} (k : Nat) (rc : eval_places_R) : Run UX ρ := fun s K =>
popS 1 s.env fun v1 e2 =>
asI .i64 v1 fun n1 =>
popS 42 e2 fun v3 e4 =>
as_l25 v3 fun t42 =>
popS 43 e4 fun v5 e6 =>
asI .i64 v5 fun t43 =>
popS 44 e6 fun v7 e8 =>
asI .i64 v7 fun t44 =>
popN e8 <|
popN s.hp <|
eval_places_l7 k rc (fun t4 => K .ret ⟨[(4, .pv (.bool t4))], []⟩) (K (.exit 0) ⟨[], []⟩) k n1 t42 t43 t44
noncomputable def eval_places_j6_s {ρ : Type} (k : Nat) (rc : eval_places_R) : Run UX ρ := fun s K =>
popS 1 s.env fun v1 e2 =>
asI .i64 v1 fun n1 =>
popS 2 e2 fun v3 e4 =>
asP 2 0 v3 <|
popN e4 <|
popB 2 s.hp fun c5 e6 =>
popA c5 fun v7 c8 =>
asI .i64 v7 fun z9 =>
popA c8 fun v10 c11 =>
asI .i64 v10 fun z12 =>
popA c11 fun v13 c14 =>
asI .i64 v13 fun z15 =>
popA c14 fun v16 c17 =>
asS v16 fun z18 =>
popA c17 fun v19 c20 =>
asS v19 fun z21 =>
popA c20 fun v22 c23 =>
asS v22 fun z24 =>
popA c23 fun v25 c26 =>
as_l25 v25 fun z27 =>
popN c26 <|
popN e6 <|
eval_places_j6 k rc (fun t4 => K .ret ⟨[(4, .pv (.bool t4))], []⟩) n1 (⟨z9, (⟨z12, z15, z18⟩ : S23), z21, z24, z27⟩ : S25)
noncomputable def eval_places_cfg {ρ : Type} (k : Nat) (rc : eval_places_R) : Cfg UX ρ where
  live i := (assoc [(0, [0, 1]), (1, [1, 2]), (2, []), (3, [1, 2]), (4, [1, 2, 5]), (5, []), (6, [1, 2]), (7, [1, 42, 43, 44]), (8, [1, 42, 43, 44]), (9, [1, 7, 42, 43, 44]), (10, []), (11, [1, 42, 43, 44]), (12, [])] i).getD []
  boxes i := (assoc [(0, []), (1, [2]), (2, []), (3, [2]), (4, [2, 5]), (5, []), (6, [2]), (7, []), (8, []), (9, [7]), (10, []), (11, []), (12, [])] i).getD []
  tk i := (assoc [] i).getD []
  n := 53
  labelR l := (assoc [] l).getD 0
  loops := assoc [(7, eval_places_l7_s k rc)]
  labels := assoc []
  joins := assoc [(6, eval_places_j6_s k rc)]
  xl i e := match e with
    | .nxt => assoc [] i
    | .ret => assoc [(7, ([4], [])), (6, ([4], []))] i
    | .exit j => (assoc [(7, [(0, ([], []))])] i).bind fun l => assoc l j
    | .goto j => (assoc [] i).bind fun l => assoc l j
noncomputable def eval_places_L : List Code := selI [7] (loopsOf eval_places_code)
noncomputable def eval_places_J : List Code := selI [6] (joinsOf eval_places_code)
noncomputable def eval_places_S : List Code := scopesOf eval_places_code
theorem eval_places_l7_eq0 {ρ : Type} (k : Nat) (rc : eval_places_R) (K : Ex → St UU → Option ρ) : ∀ (n : Nat) (v : Int × (List T25) × Int × Int), iterK UX (fun s => s.at (eval_places_cfg (ρ := ρ) k rc).live (eval_places_cfg (ρ := ρ) k rc).boxes (some 7)) (exec UX (eval_places_cfg k rc) (eval_places_G k rc) (eval_places_L.getD 0 .skip)) n ⟨[(1, .pv (.int .i64 v.1)), (42, .pv (.typ (.l25 v.2.1))), (43, .pv (.int .i64 v.2.2.1)), (44, .pv (.int .i64 v.2.2.2))], []⟩ (nrmK UX (eval_places_cfg k rc) 7 K) = eval_places_l7 k rc (fun t4 => K .ret ⟨[(4, .pv (.bool t4))], []⟩) (K (.exit 0) ⟨[], []⟩) n v.1 v.2.1 v.2.2.1 v.2.2.2 :=
  iter_rec (X := UX) (fun v => ⟨[(1, .pv (.int .i64 v.1)), (42, .pv (.typ (.l25 v.2.1))), (43, .pv (.int .i64 v.2.2.1)), (44, .pv (.int .i64 v.2.2.2))], []⟩) (fun rec v => eval_places_l7_b k rc (fun t4 => K .ret ⟨[(4, .pv (.bool t4))], []⟩) (K (.exit 0) ⟨[], []⟩) (fun n1 t42 t43 t44 => rec (n1, t42, t43, t44)) v.1 v.2.1 v.2.2.1 v.2.2.2) (fun n v => eval_places_l7 k rc (fun t4 => K .ret ⟨[(4, .pv (.bool t4))], []⟩) (K (.exit 0) ⟨[], []⟩) n v.1 v.2.1 v.2.2.1 v.2.2.2) (fun n v => by kernel_rfl) (fun _ => rfl) (fun _ _ => rfl)
theorem eval_places_l7_ok0 {ρ : Type} (k : Nat) (rc : eval_places_R) : IterOK UX (eval_places_cfg (ρ := ρ) k rc) (eval_places_G k rc) (eval_places_L.getD 0 .skip) 7 (eval_places_l7_s k rc) := by
  intro s K r h
  obtain ⟨env, hp⟩ := s
  unfold eval_places_l7_s at h
  replace h := popS_inv h; obtain ⟨v1, e2, rfl, h⟩ := h
  replace h := asI_inv h; obtain ⟨n1, rfl, h⟩ := h
  replace h := popS_inv h; obtain ⟨v3, e4, rfl, h⟩ := h
  replace h := as_l25_inv h; obtain ⟨t42, rfl, h⟩ := h
  replace h := popS_inv h; obtain ⟨v5, e6, rfl, h⟩ := h
  replace h := asI_inv h; obtain ⟨t43, rfl, h⟩ := h
  replace h := popS_inv h; obtain ⟨v7, e8, rfl, h⟩ := h
  replace h := asI_inv h; obtain ⟨t44, rfl, h⟩ := h
  replace h := popN_inv h; obtain ⟨rfl, h⟩ := h
  replace h := popN_inv h; obtain ⟨rfl, h⟩ := h
  exact ⟨k, (eval_places_l7_eq0 k rc K k (n1, t42, t43, t44)).trans h⟩
theorem eval_places_j6_eq0 {ρ : Type} (k : Nat) (rc : eval_places_R) (K : Ex → St UU → Option ρ) (n1 : Int) (e2 : S25) : exec UX (eval_places_cfg k rc) (eval_places_G k rc) (eval_places_J.getD 0 .skip) ⟨[(1, .pv (.int .i64 n1)), (2, .ptr 2 0)], [(2, [.pv (.int .i64 e2.f0), .pv (.int .i64 e2.f1.f0), .pv (.int .i64 e2.f1.f1), .pv (.str e2.f1.f2), .pv (.str e2.f2), .pv (.str e2.f3), .pv (.typ (.l25 e2.f4))])]⟩ (nrmK UX (eval_places_cfg k rc) 6 K) = eval_places_j6 k rc (fun t4 => K .ret ⟨[(4, .pv (.bool t4))], []⟩) n1 e2 := by kernel_rfl
theorem eval_places_j6_ok0 {ρ : Type} (k : Nat) (rc : eval_places_R) : JoinOK UX (eval_places_cfg (ρ := ρ) k rc) (eval_places_G k rc) (eval_places_J.getD 0 .skip) 6 (eval_places_j6_s k rc) := by
  intro s K r h
  obtain ⟨env, hp⟩ := s
  unfold eval_places_j6_s at h
  replace h := popS_inv h; obtain ⟨v1, e2, rfl, h⟩ := h
  replace h := asI_inv h; obtain ⟨n1, rfl, h⟩ := h
  replace h := popS_inv h; obtain ⟨v3, e4, rfl, h⟩ := h
  replace h := asP_inv h; obtain ⟨rfl, h⟩ := h
  replace h := popN_inv h; obtain ⟨rfl, h⟩ := h
  replace h := popB_inv h; obtain ⟨c5, e6, rfl, h⟩ := h
  replace h := popA_inv h; obtain ⟨v7, c8, rfl, h⟩ := h
  replace h := asI_inv h; obtain ⟨z9, rfl, h⟩ := h
  replace h := popA_inv h; obtain ⟨v10, c11, rfl, h⟩ := h
  replace h := asI_inv h; obtain ⟨z12, rfl, h⟩ := h
  replace h := popA_inv h; obtain ⟨v13, c14, rfl, h⟩ := h
  replace h := asI_inv h; obtain ⟨z15, rfl, h⟩ := h
  replace h := popA_inv h; obtain ⟨v16, c17, rfl, h⟩ := h
  replace h := asS_inv h; obtain ⟨z18, rfl, h⟩ := h
  replace h := popA_inv h; obtain ⟨v19, c20, rfl, h⟩ := h
  replace h := asS_inv h; obtain ⟨z21, rfl, h⟩ := h
  replace h := popA_inv h; obtain ⟨v22, c23, rfl, h⟩ := h
  replace h := asS_inv h; obtain ⟨z24, rfl, h⟩ := h
  replace h := popA_inv h; obtain ⟨v25, c26, rfl, h⟩ := h
  replace h := as_l25_inv h; obtain ⟨z27, rfl, h⟩ := h
  replace h := popN_inv h; obtain ⟨rfl, h⟩ := h
  replace h := popN_inv h; obtain ⟨rfl, h⟩ := h
  exact (eval_places_j6_eq0 k rc K n1 (⟨z9, (⟨z12, z15, z18⟩ : S23), z21, z24, z27⟩ : S25)).trans h
theorem eval_places_cok {ρ : Type} (k : Nat) (rc : eval_places_R) : COK (eval_places_cfg (ρ := ρ) k rc) (eval_places_G k rc) eval_places_code :=
  cok_of (tl := [(7, eval_places_l7_s k rc)]) (tj := [(6, eval_places_j6_s k rc)]) (tb := []) rfl rfl rfl (all_nth 1 (by kernel_rfl) ⟨iter_case (by kernel_rfl) rfl (eval_places_l7_ok0 k rc), trivial⟩) (all_nth 1 (by kernel_rfl) ⟨join_case (by kernel_rfl) rfl (eval_places_j6_ok0 k rc), trivial⟩) (fun p hp => by cases hp)
noncomputable def eval_places_dec (v : AV UU) (_ : List (List (AV UU))) : Option Bool :=
asB v fun r0 =>
some r0
theorem eval_places_dec_enc (v : AV UU) (b : List (List (AV UU))) (r : Bool) (h : eval_places_dec v b = some r) : v = eval_places_enc r := by
  unfold eval_places_dec at h
  replace h := asB_inv h; obtain ⟨r0, rfl, h⟩ := h
  cases h
  rfl
theorem eval_places_eq (k : Nat) (rc : eval_places_R) (e0 : S25) (n1 : Int) : bodyK UX (eval_places_cfg k rc) (eval_places_G k rc) Tryd.f63 [.pv (.typ (.s25 e0)), .pv (.int .i64 n1)] [] eval_places_dec = eval_places_r k rc e0 n1 := by kernel_rfl
theorem eval_places_con_r (k : Nat) (rc : eval_places_R) (hrc : eval_places_R_ok rc) (e0 : S25) (n1 : Int) (r : Bool) (h : eval_places_r k rc e0 n1 = some r) : Con (X := UX) Tryd.prog 63 [.pv (.typ (.s25 e0)), .pv (.int .i64 n1)] [] (eval_places_enc r) [] :=
  con_of_body xok tok Tryd.func63 eval_places_body (eval_places_gok k rc hrc) rfl (eval_places_cok k rc) (of_decide_eq_true (by kernel_rfl)) eval_places_dec_enc ((eval_places_eq k rc e0 n1).trans h)
theorem eval_places_R_itok (k : Nat) : ∀ d, eval_places_R_ok (eval_places_R_it k d)
  | 0 => ⟨fun e0 n1 r h => by have e : (none : Option Bool) = some r := h; cases e⟩
  | d + 1 => ⟨fun e0 n1 r h => eval_places_con_r k (eval_places_R_it k d) (eval_places_R_itok k d) e0 n1 r h⟩
theorem eval_places_con (k : Nat) (e0 : S25) (n1 : Int) (r : Bool) (h : eval_places k e0 n1 = some r) : Con (X := UX) Tryd.prog 63 [.pv (.typ (.s25 e0)), .pv (.int .i64 n1)] [] (eval_places_enc r) [] := (eval_places_R_itok k k).eval_places e0 n1 r h
noncomputable def eval_places_an {ρ : Type} (k : Nat) : An UX ρ := fun args bx K =>
popA args fun v1 a2 =>
as_s25 v1 fun e0 =>
popA a2 fun v3 a4 =>
asI .i64 v3 fun n1 =>
popN a4 <|
popN bx <|
(eval_places k e0 n1).bind fun r => K (eval_places_enc r) []
theorem eval_places_ok {ρ : Type} (k : Nat) : AnsOK Tryd.prog 63 (eval_places_an (ρ := ρ) k) := by
  intro args bx K r h
  unfold eval_places_an at h
  replace h := popA_inv h; obtain ⟨v1, a2, rfl, h⟩ := h
  replace h := as_s25_inv h; obtain ⟨e0, rfl, h⟩ := h
  replace h := popA_inv h; obtain ⟨v3, a4, rfl, h⟩ := h
  replace h := asI_inv h; obtain ⟨n1, rfl, h⟩ := h
  replace h := popN_inv h; obtain ⟨rfl, h⟩ := h
  replace h := popN_inv h; obtain ⟨rfl, h⟩ := h
  replace h := bind_inv h
  obtain ⟨x, hx, h⟩ := h
  exact ⟨there_of Tryd.func63 (by kernel_rfl) eval_places_body, _, _, h, eval_places_con k e0 n1 x hx⟩

/-! slices.Clone[[]cadastre/api.Expr,cadastre/api.Expr] -/
noncomputable def api_Expr__95_code : Code := match Tryd.f95.body with | some c => c | none => .skip
theorem api_Expr__95_body : Tryd.f95.body = some api_Expr__95_code := by kernel_rfl
noncomputable def api_Expr__95_G {ρ : Type} (k : Nat) : Ans UX ρ := gnil
theorem api_Expr__95_gok {ρ : Type} (k : Nat) : GOK Tryd.prog (api_Expr__95_G (ρ := ρ) k) := gok_nil
noncomputable def api_Expr__95_cfg {ρ : Type} (k : Nat) : Cfg UX ρ where
  live i := (assoc [(0, [0]), (1, [0]), (2, []), (3, [0])] i).getD []
  boxes i := (assoc [(0, []), (1, []), (2, []), (3, [])] i).getD []
  tk i := (assoc [(1000000, [2])] i).getD []
  n := 8
  labelR l := (assoc [] l).getD 0
  loops := assoc []
  labels := assoc []
  joins := assoc []
  xl i e := match e with
    | .nxt => assoc [] i
    | .ret => assoc [] i
    | .exit j => (assoc [] i).bind fun l => assoc l j
    | .goto j => (assoc [] i).bind fun l => assoc l j
noncomputable def api_Expr__95_L : List Code := selI [] (loopsOf api_Expr__95_code)
noncomputable def api_Expr__95_J : List Code := selI [] (joinsOf api_Expr__95_code)
noncomputable def api_Expr__95_S : List Code := scopesOf api_Expr__95_code
theorem api_Expr__95_cok {ρ : Type} (k : Nat) : COK (api_Expr__95_cfg (ρ := ρ) k) (api_Expr__95_G k) api_Expr__95_code :=
  cok_of (tl := []) (tj := []) (tb := []) rfl rfl rfl (nil_all (by kernel_rfl)) (nil_all (by kernel_rfl)) (fun p hp => by cases hp)
noncomputable def api_Expr__95_enc (r : (List T25)) : AV UU := .own (.l25 r)
noncomputable def api_Expr__95_dec (v : AV UU) (_ : List (List (AV UU))) : Option (List T25) :=
asO_l25 v fun r =>
some r
theorem api_Expr__95_dec_enc (v : AV UU) (b : List (List (AV UU))) (r : (List T25)) (h : api_Expr__95_dec v b = some r) : v = api_Expr__95_enc r := by
  unfold api_Expr__95_dec at h
  replace h := asO_l25_inv h; obtain ⟨r, rfl, h⟩ := h
  cases h
  rfl
theorem api_Expr__95_eq (k : Nat) (s0 : List T25) : bodyK UX (api_Expr__95_cfg k) (api_Expr__95_G k) Tryd.f95 [.pv (.typ (.l25 s0))] [] api_Expr__95_dec = api_Expr__95 k s0 := by kernel_rfl
theorem api_Expr__95_con (k : Nat) (s0 : List T25) (r : (List T25)) (h : api_Expr__95 k s0 = some r) : Con (X := UX) Tryd.prog 95 [.pv (.typ (.l25 s0))] [] (api_Expr__95_enc r) [] :=
  con_of_body xok tok Tryd.func95 api_Expr__95_body (api_Expr__95_gok k) rfl (api_Expr__95_cok k) (of_decide_eq_true (by kernel_rfl)) api_Expr__95_dec_enc ((api_Expr__95_eq k s0).trans h)
noncomputable def api_Expr__95_an {ρ : Type} (k : Nat) : An UX ρ := fun args bx K =>
popA args fun v1 a2 =>
as_l25 v1 fun s0 =>
popN a2 <|
popN bx <|
(api_Expr__95 k s0).bind fun r => K (api_Expr__95_enc r) []
theorem api_Expr__95_ok {ρ : Type} (k : Nat) : AnsOK Tryd.prog 95 (api_Expr__95_an (ρ := ρ) k) := by
  intro args bx K r h
  unfold api_Expr__95_an at h
  replace h := popA_inv h; obtain ⟨v1, a2, rfl, h⟩ := h
  replace h := as_l25_inv h; obtain ⟨s0, rfl, h⟩ := h
  replace h := popN_inv h; obtain ⟨rfl, h⟩ := h
  replace h := popN_inv h; obtain ⟨rfl, h⟩ := h
  replace h := bind_inv h
  obtain ⟨x, hx, h⟩ := h
  exact ⟨there_of Tryd.func95 (by kernel_rfl) api_Expr__95_body, _, _, h, api_Expr__95_con k s0 x hx⟩
end Go.Proofs.YtnoeedkbadoogaaDoor.E
