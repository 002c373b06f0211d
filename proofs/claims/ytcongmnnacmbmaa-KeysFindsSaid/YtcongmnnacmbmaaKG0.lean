/-
  What the program's functions answer: the printed functions' answers.
-/
import Derived.Test.YtcongmnnacmbmaaKU
namespace Go.Proofs.Ytcongmnnacmbmaa.K
open Go Go.AX
/-! cadastre/cadastrelaw0.Light -/
noncomputable def cadastrelaw0_Light_code : Code := match Try.f9.body with | some c => c | none => .skip
theorem cadastrelaw0_Light_body : Try.f9.body = some cadastrelaw0_Light_code := by kernel_rfl
noncomputable def cadastrelaw0_Light_G {ρ : Type} (k : Nat) : Ans UX ρ := gnil
theorem cadastrelaw0_Light_gok {ρ : Type} (k : Nat) : GOK Try.prog (cadastrelaw0_Light_G (ρ := ρ) k) := gok_nil
noncomputable def cadastrelaw0_Light_l5_s {ρ : Type} (k : Nat) : Run UX ρ := fun s K =>
popS 0 s.env fun v1 e2 =>
as_l41 v1 fun l0 =>
popS 1 e2 fun v3 e4 =>
asI .i64 v3 fun most1 =>
popS 5 e4 fun v5 e6 =>
asI .i64 v5 fun n5 =>
popS 6 e6 fun v7 e8 =>
asI .i64 v7 fun i6 =>
popN e8 <|
popN s.hp <|
cadastrelaw0_Light_l5 k (fun most1 n5 => K (.exit 0) ⟨[(1, .pv (.int .i64 most1)), (5, .pv (.int .i64 n5))], []⟩) k l0 most1 n5 i6
noncomputable def cadastrelaw0_Light_cfg {ρ : Type} (k : Nat) : Cfg UX ρ where
  live i := (assoc [(0, [0, 1]), (1, [0, 1]), (2, []), (3, [0, 1]), (4, [0, 1, 5]), (5, [0, 1, 5, 6]), (6, [0, 1, 5, 6]), (7, [0, 1, 5, 6]), (8, [1, 5])] i).getD []
  boxes i := (assoc [(0, []), (1, []), (2, []), (3, []), (4, []), (5, []), (6, []), (7, []), (8, [])] i).getD []
  tk i := (assoc [] i).getD []
  n := 27
  labelR l := (assoc [] l).getD 0
  loops := assoc [(5, cadastrelaw0_Light_l5_s k)]
  labels := assoc []
  joins := assoc []
  xl i e := match e with
    | .nxt => assoc [] i
    | .ret => assoc [] i
    | .exit j => (assoc [(5, [(0, ([1, 5], []))])] i).bind fun l => assoc l j
    | .goto j => (assoc [] i).bind fun l => assoc l j
noncomputable def cadastrelaw0_Light_L : List Code := selI [5] (loopsOf cadastrelaw0_Light_code)
noncomputable def cadastrelaw0_Light_J : List Code := selI [] (joinsOf cadastrelaw0_Light_code)
noncomputable def cadastrelaw0_Light_S : List Code := scopesOf cadastrelaw0_Light_code
theorem cadastrelaw0_Light_l5_eq0 {ρ : Type} (k : Nat) (K : Ex → St UU → Option ρ) : ∀ (n : Nat) (v : (List S41) × Int × Int × Int), iterK UX (fun s => s.at (cadastrelaw0_Light_cfg (ρ := ρ) k).live (cadastrelaw0_Light_cfg (ρ := ρ) k).boxes (some 5)) (exec UX (cadastrelaw0_Light_cfg k) (cadastrelaw0_Light_G k) (cadastrelaw0_Light_L.getD 0 .skip)) n ⟨[(0, .pv (.typ (.l41 v.1))), (1, .pv (.int .i64 v.2.1)), (5, .pv (.int .i64 v.2.2.1)), (6, .pv (.int .i64 v.2.2.2))], []⟩ (nrmK UX (cadastrelaw0_Light_cfg k) 5 K) = cadastrelaw0_Light_l5 k (fun most1 n5 => K (.exit 0) ⟨[(1, .pv (.int .i64 most1)), (5, .pv (.int .i64 n5))], []⟩) n v.1 v.2.1 v.2.2.1 v.2.2.2 :=
  iter_rec (X := UX) (fun v => ⟨[(0, .pv (.typ (.l41 v.1))), (1, .pv (.int .i64 v.2.1)), (5, .pv (.int .i64 v.2.2.1)), (6, .pv (.int .i64 v.2.2.2))], []⟩) (fun rec v => cadastrelaw0_Light_l5_b k (fun most1 n5 => K (.exit 0) ⟨[(1, .pv (.int .i64 most1)), (5, .pv (.int .i64 n5))], []⟩) (fun l0 most1 n5 i6 => rec (l0, most1, n5, i6)) v.1 v.2.1 v.2.2.1 v.2.2.2) (fun n v => cadastrelaw0_Light_l5 k (fun most1 n5 => K (.exit 0) ⟨[(1, .pv (.int .i64 most1)), (5, .pv (.int .i64 n5))], []⟩) n v.1 v.2.1 v.2.2.1 v.2.2.2) (fun n v => by kernel_rfl) (fun _ => rfl) (fun _ _ => rfl)
theorem cadastrelaw0_Light_l5_ok0 {ρ : Type} (k : Nat) : IterOK UX (cadastrelaw0_Light_cfg (ρ := ρ) k) (cadastrelaw0_Light_G k) (cadastrelaw0_Light_L.getD 0 .skip) 5 (cadastrelaw0_Light_l5_s k) := by
  intro s K r h
  obtain ⟨env, hp⟩ := s
  unfold cadastrelaw0_Light_l5_s at h
  replace h := popS_inv h; obtain ⟨v1, e2, rfl, h⟩ := h
  replace h := as_l41_inv h; obtain ⟨l0, rfl, h⟩ := h
  replace h := popS_inv h; obtain ⟨v3, e4, rfl, h⟩ := h
  replace h := asI_inv h; obtain ⟨most1, rfl, h⟩ := h
  replace h := popS_inv h; obtain ⟨v5, e6, rfl, h⟩ := h
  replace h := asI_inv h; obtain ⟨n5, rfl, h⟩ := h
  replace h := popS_inv h; obtain ⟨v7, e8, rfl, h⟩ := h
  replace h := asI_inv h; obtain ⟨i6, rfl, h⟩ := h
  replace h := popN_inv h; obtain ⟨rfl, h⟩ := h
  replace h := popN_inv h; obtain ⟨rfl, h⟩ := h
  exact ⟨k, (cadastrelaw0_Light_l5_eq0 k K k (l0, most1, n5, i6)).trans h⟩
theorem cadastrelaw0_Light_cok {ρ : Type} (k : Nat) : COK (cadastrelaw0_Light_cfg (ρ := ρ) k) (cadastrelaw0_Light_G k) cadastrelaw0_Light_code :=
  cok_of (tl := [(5, cadastrelaw0_Light_l5_s k)]) (tj := []) (tb := []) rfl rfl rfl (all_nth 1 (by kernel_rfl) ⟨iter_case (by kernel_rfl) rfl (cadastrelaw0_Light_l5_ok0 k), trivial⟩) (nil_all (by kernel_rfl)) (fun p hp => by cases hp)
noncomputable def cadastrelaw0_Light_enc (r : Bool) : AV UU := .pv (.bool r)
noncomputable def cadastrelaw0_Light_dec (v : AV UU) (_ : List (List (AV UU))) : Option Bool :=
asB v fun r0 =>
some r0
theorem cadastrelaw0_Light_dec_enc (v : AV UU) (b : List (List (AV UU))) (r : Bool) (h : cadastrelaw0_Light_dec v b = some r) : v = cadastrelaw0_Light_enc r := by
  unfold cadastrelaw0_Light_dec at h
  replace h := asB_inv h; obtain ⟨r0, rfl, h⟩ := h
  cases h
  rfl
theorem cadastrelaw0_Light_eq (k : Nat) (l0 : List S41) (most1 : Int) : bodyK UX (cadastrelaw0_Light_cfg k) (cadastrelaw0_Light_G k) Try.f9 [.pv (.typ (.l41 l0)), .pv (.int .i64 most1)] [] cadastrelaw0_Light_dec = cadastrelaw0_Light k l0 most1 := by kernel_rfl
theorem cadastrelaw0_Light_con (k : Nat) (l0 : List S41) (most1 : Int) (r : Bool) (h : cadastrelaw0_Light k l0 most1 = some r) : Con (X := UX) Try.prog 9 [.pv (.typ (.l41 l0)), .pv (.int .i64 most1)] [] (cadastrelaw0_Light_enc r) [] :=
  con_of_body xok tok Try.func9 cadastrelaw0_Light_body (cadastrelaw0_Light_gok k) rfl (cadastrelaw0_Light_cok k) (of_decide_eq_true (by kernel_rfl)) cadastrelaw0_Light_dec_enc ((cadastrelaw0_Light_eq k l0 most1).trans h)
noncomputable def cadastrelaw0_Light_an {ρ : Type} (k : Nat) : An UX ρ := fun args bx K =>
popA args fun v1 a2 =>
as_l41 v1 fun l0 =>
popA a2 fun v3 a4 =>
asI .i64 v3 fun most1 =>
popN a4 <|
popN bx <|
(cadastrelaw0_Light k l0 most1).bind fun r => K (cadastrelaw0_Light_enc r) []
theorem cadastrelaw0_Light_ok {ρ : Type} (k : Nat) : AnsOK Try.prog 9 (cadastrelaw0_Light_an (ρ := ρ) k) := by
  intro args bx K r h
  unfold cadastrelaw0_Light_an at h
  replace h := popA_inv h; obtain ⟨v1, a2, rfl, h⟩ := h
  replace h := as_l41_inv h; obtain ⟨l0, rfl, h⟩ := h
  replace h := popA_inv h; obtain ⟨v3, a4, rfl, h⟩ := h
  replace h := asI_inv h; obtain ⟨most1, rfl, h⟩ := h
  replace h := popN_inv h; obtain ⟨rfl, h⟩ := h
  replace h := popN_inv h; obtain ⟨rfl, h⟩ := h
  replace h := bind_inv h
  obtain ⟨x, hx, h⟩ := h
  exact ⟨there_of Try.func9 (by kernel_rfl) cadastrelaw0_Light_body, _, _, h, cadastrelaw0_Light_con k l0 most1 x hx⟩

/-! cadastre/cadastrelaw0.LightLists -/
noncomputable def cadastrelaw0_LightLists_code : Code := match Try.f10.body with | some c => c | none => .skip
theorem cadastrelaw0_LightLists_body : Try.f10.body = some cadastrelaw0_LightLists_code := by kernel_rfl
noncomputable def cadastrelaw0_LightLists_G {ρ : Type} (k : Nat) : Ans UX ρ := gnil
theorem cadastrelaw0_LightLists_gok {ρ : Type} (k : Nat) : GOK Try.prog (cadastrelaw0_LightLists_G (ρ := ρ) k) := gok_nil
noncomputable def cadastrelaw0_LightLists_l10_s {ρ : Type} (k : Nat) : Run UX ρ := fun s K =>
popS 0 s.env fun v1 e2 =>
as_ll41 v1 fun l0 =>
popS 1 e2 fun v3 e4 =>
asI .i64 v3 fun most1 =>
popS 5 e4 fun v5 e6 =>
asI .i64 v5 fun n5 =>
popS 6 e6 fun v7 e8 =>
asI .i64 v7 fun i6 =>
popS 7 e8 fun v9 e10 =>
asI .i64 v9 fun k7 =>
popN e10 <|
popN s.hp <|
cadastrelaw0_LightLists_l10 k (fun l0 most1 n5 i6 => K (.exit 2) ⟨[(0, .pv (.typ (.ll41 l0))), (1, .pv (.int .i64 most1)), (5, .pv (.int .i64 n5)), (6, .pv (.int .i64 i6))], []⟩) k l0 most1 n5 i6 k7
noncomputable def cadastrelaw0_LightLists_l5_s {ρ : Type} (k : Nat) : Run UX ρ := fun s K =>
popS 0 s.env fun v1 e2 =>
as_ll41 v1 fun l0 =>
popS 1 e2 fun v3 e4 =>
asI .i64 v3 fun most1 =>
popS 5 e4 fun v5 e6 =>
asI .i64 v5 fun n5 =>
popS 6 e6 fun v7 e8 =>
asI .i64 v7 fun i6 =>
popN e8 <|
popN s.hp <|
cadastrelaw0_LightLists_l5 k (fun t4 => K .ret ⟨[(4, .pv (.bool t4))], []⟩) (fun most1 n5 => K (.exit 0) ⟨[(1, .pv (.int .i64 most1)), (5, .pv (.int .i64 n5))], []⟩) k l0 most1 n5 i6
noncomputable def cadastrelaw0_LightLists_cfg {ρ : Type} (k : Nat) : Cfg UX ρ where
  live i := (assoc [(0, [0, 1]), (1, [0, 1]), (2, []), (3, [0, 1]), (4, [0, 1, 5]), (5, [0, 1, 5, 6]), (6, [0, 1, 5, 6]), (7, [0, 1, 5, 6]), (8, []), (9, [0, 1, 5, 6]), (10, [0, 1, 5, 6, 7]), (11, [0, 1, 5, 6, 7]), (12, [0, 1, 5, 6, 7]), (13, [1, 5])] i).getD []
  boxes i := (assoc [(0, []), (1, []), (2, []), (3, []), (4, []), (5, []), (6, []), (7, []), (8, []), (9, []), (10, []), (11, []), (12, []), (13, [])] i).getD []
  tk i := (assoc [] i).getD []
  n := 47
  labelR l := (assoc [] l).getD 0
  loops := assoc [(10, cadastrelaw0_LightLists_l10_s k), (5, cadastrelaw0_LightLists_l5_s k)]
  labels := assoc []
  joins := assoc []
  xl i e := match e with
    | .nxt => assoc [] i
    | .ret => assoc [(5, ([4], []))] i
    | .exit j => (assoc [(10, [(2, ([0, 1, 5, 6], []))]), (5, [(0, ([1, 5], []))])] i).bind fun l => assoc l j
    | .goto j => (assoc [] i).bind fun l => assoc l j
noncomputable def cadastrelaw0_LightLists_L : List Code := selI [10, 5] (loopsOf cadastrelaw0_LightLists_code)
noncomputable def cadastrelaw0_LightLists_J : List Code := selI [] (joinsOf cadastrelaw0_LightLists_code)
noncomputable def cadastrelaw0_LightLists_S : List Code := scopesOf cadastrelaw0_LightLists_code
theorem cadastrelaw0_LightLists_l5_eq0 {ρ : Type} (k : Nat) (K : Ex → St UU → Option ρ) : ∀ (n : Nat) (v : (List (List S41)) × Int × Int × Int), iterK UX (fun s => s.at (cadastrelaw0_LightLists_cfg (ρ := ρ) k).live (cadastrelaw0_LightLists_cfg (ρ := ρ) k).boxes (some 5)) (exec UX (cadastrelaw0_LightLists_cfg k) (cadastrelaw0_LightLists_G k) (cadastrelaw0_LightLists_L.getD 0 .skip)) n ⟨[(0, .pv (.typ (.ll41 v.1))), (1, .pv (.int .i64 v.2.1)), (5, .pv (.int .i64 v.2.2.1)), (6, .pv (.int .i64 v.2.2.2))], []⟩ (nrmK UX (cadastrelaw0_LightLists_cfg k) 5 K) = cadastrelaw0_LightLists_l5 k (fun t4 => K .ret ⟨[(4, .pv (.bool t4))], []⟩) (fun most1 n5 => K (.exit 0) ⟨[(1, .pv (.int .i64 most1)), (5, .pv (.int .i64 n5))], []⟩) n v.1 v.2.1 v.2.2.1 v.2.2.2 :=
  iter_rec (X := UX) (fun v => ⟨[(0, .pv (.typ (.ll41 v.1))), (1, .pv (.int .i64 v.2.1)), (5, .pv (.int .i64 v.2.2.1)), (6, .pv (.int .i64 v.2.2.2))], []⟩) (fun rec v => cadastrelaw0_LightLists_l5_b k (fun t4 => K .ret ⟨[(4, .pv (.bool t4))], []⟩) (fun most1 n5 => K (.exit 0) ⟨[(1, .pv (.int .i64 most1)), (5, .pv (.int .i64 n5))], []⟩) (fun l0 most1 n5 i6 => rec (l0, most1, n5, i6)) v.1 v.2.1 v.2.2.1 v.2.2.2) (fun n v => cadastrelaw0_LightLists_l5 k (fun t4 => K .ret ⟨[(4, .pv (.bool t4))], []⟩) (fun most1 n5 => K (.exit 0) ⟨[(1, .pv (.int .i64 most1)), (5, .pv (.int .i64 n5))], []⟩) n v.1 v.2.1 v.2.2.1 v.2.2.2) (fun n v => by kernel_rfl) (fun _ => rfl) (fun _ _ => rfl)
theorem cadastrelaw0_LightLists_l5_ok0 {ρ : Type} (k : Nat) : IterOK UX (cadastrelaw0_LightLists_cfg (ρ := ρ) k) (cadastrelaw0_LightLists_G k) (cadastrelaw0_LightLists_L.getD 0 .skip) 5 (cadastrelaw0_LightLists_l5_s k) := by
  intro s K r h
  obtain ⟨env, hp⟩ := s
  unfold cadastrelaw0_LightLists_l5_s at h
  replace h := popS_inv h; obtain ⟨v1, e2, rfl, h⟩ := h
  replace h := as_ll41_inv h; obtain ⟨l0, rfl, h⟩ := h
  replace h := popS_inv h; obtain ⟨v3, e4, rfl, h⟩ := h
  replace h := asI_inv h; obtain ⟨most1, rfl, h⟩ := h
  replace h := popS_inv h; obtain ⟨v5, e6, rfl, h⟩ := h
  replace h := asI_inv h; obtain ⟨n5, rfl, h⟩ := h
  replace h := popS_inv h; obtain ⟨v7, e8, rfl, h⟩ := h
  replace h := asI_inv h; obtain ⟨i6, rfl, h⟩ := h
  replace h := popN_inv h; obtain ⟨rfl, h⟩ := h
  replace h := popN_inv h; obtain ⟨rfl, h⟩ := h
  exact ⟨k, (cadastrelaw0_LightLists_l5_eq0 k K k (l0, most1, n5, i6)).trans h⟩
theorem cadastrelaw0_LightLists_l10_eq1 {ρ : Type} (k : Nat) (K : Ex → St UU → Option ρ) : ∀ (n : Nat) (v : (List (List S41)) × Int × Int × Int × Int), iterK UX (fun s => s.at (cadastrelaw0_LightLists_cfg (ρ := ρ) k).live (cadastrelaw0_LightLists_cfg (ρ := ρ) k).boxes (some 10)) (exec UX (cadastrelaw0_LightLists_cfg k) (cadastrelaw0_LightLists_G k) (cadastrelaw0_LightLists_L.getD 1 .skip)) n ⟨[(0, .pv (.typ (.ll41 v.1))), (1, .pv (.int .i64 v.2.1)), (5, .pv (.int .i64 v.2.2.1)), (6, .pv (.int .i64 v.2.2.2.1)), (7, .pv (.int .i64 v.2.2.2.2))], []⟩ (nrmK UX (cadastrelaw0_LightLists_cfg k) 10 K) = cadastrelaw0_LightLists_l10 k (fun l0 most1 n5 i6 => K (.exit 2) ⟨[(0, .pv (.typ (.ll41 l0))), (1, .pv (.int .i64 most1)), (5, .pv (.int .i64 n5)), (6, .pv (.int .i64 i6))], []⟩) n v.1 v.2.1 v.2.2.1 v.2.2.2.1 v.2.2.2.2 :=
  iter_rec (X := UX) (fun v => ⟨[(0, .pv (.typ (.ll41 v.1))), (1, .pv (.int .i64 v.2.1)), (5, .pv (.int .i64 v.2.2.1)), (6, .pv (.int .i64 v.2.2.2.1)), (7, .pv (.int .i64 v.2.2.2.2))], []⟩) (fun rec v => cadastrelaw0_LightLists_l10_b k (fun l0 most1 n5 i6 => K (.exit 2) ⟨[(0, .pv (.typ (.ll41 l0))), (1, .pv (.int .i64 most1)), (5, .pv (.int .i64 n5)), (6, .pv (.int .i64 i6))], []⟩) (fun l0 most1 n5 i6 k7 => rec (l0, most1, n5, i6, k7)) v.1 v.2.1 v.2.2.1 v.2.2.2.1 v.2.2.2.2) (fun n v => cadastrelaw0_LightLists_l10 k (fun l0 most1 n5 i6 => K (.exit 2) ⟨[(0, .pv (.typ (.ll41 l0))), (1, .pv (.int .i64 most1)), (5, .pv (.int .i64 n5)), (6, .pv (.int .i64 i6))], []⟩) n v.1 v.2.1 v.2.2.1 v.2.2.2.1 v.2.2.2.2) (fun n v => by kernel_rfl) (fun _ => rfl) (fun _ _ => rfl)
theorem cadastrelaw0_LightLists_l10_ok1 {ρ : Type} (k : Nat) : IterOK UX (cadastrelaw0_LightLists_cfg (ρ := ρ) k) (cadastrelaw0_LightLists_G k) (cadastrelaw0_LightLists_L.getD 1 .skip) 10 (cadastrelaw0_LightLists_l10_s k) := by
  intro s K r h
  obtain ⟨env, hp⟩ := s
  unfold cadastrelaw0_LightLists_l10_s at h
  replace h := popS_inv h; obtain ⟨v1, e2, rfl, h⟩ := h
  replace h := as_ll41_inv h; obtain ⟨l0, rfl, h⟩ := h
  replace h := popS_inv h; obtain ⟨v3, e4, rfl, h⟩ := h
  replace h := asI_inv h; obtain ⟨most1, rfl, h⟩ := h
  replace h := popS_inv h; obtain ⟨v5, e6, rfl, h⟩ := h
  replace h := asI_inv h; obtain ⟨n5, rfl, h⟩ := h
  replace h := popS_inv h; obtain ⟨v7, e8, rfl, h⟩ := h
  replace h := asI_inv h; obtain ⟨i6, rfl, h⟩ := h
  replace h := popS_inv h; obtain ⟨v9, e10, rfl, h⟩ := h
  replace h := asI_inv h; obtain ⟨k7, rfl, h⟩ := h
  replace h := popN_inv h; obtain ⟨rfl, h⟩ := h
  replace h := popN_inv h; obtain ⟨rfl, h⟩ := h
  exact ⟨k, (cadastrelaw0_LightLists_l10_eq1 k K k (l0, most1, n5, i6, k7)).trans h⟩
theorem cadastrelaw0_LightLists_cok {ρ : Type} (k : Nat) : COK (cadastrelaw0_LightLists_cfg (ρ := ρ) k) (cadastrelaw0_LightLists_G k) cadastrelaw0_LightLists_code :=
  cok_of (tl := [(10, cadastrelaw0_LightLists_l10_s k), (5, cadastrelaw0_LightLists_l5_s k)]) (tj := []) (tb := []) rfl rfl rfl (all_nth 2 (by kernel_rfl) ⟨iter_case (by kernel_rfl) rfl (cadastrelaw0_LightLists_l10_ok1 k), iter_case (by kernel_rfl) rfl (cadastrelaw0_LightLists_l5_ok0 k), trivial⟩) (nil_all (by kernel_rfl)) (fun p hp => by cases hp)
noncomputable def cadastrelaw0_LightLists_enc (r : Bool) : AV UU := .pv (.bool r)
noncomputable def cadastrelaw0_LightLists_dec (v : AV UU) (_ : List (List (AV UU))) : Option Bool :=
asB v fun r0 =>
some r0
theorem cadastrelaw0_LightLists_dec_enc (v : AV UU) (b : List (List (AV UU))) (r : Bool) (h : cadastrelaw0_LightLists_dec v b = some r) : v = cadastrelaw0_LightLists_enc r := by
  unfold cadastrelaw0_LightLists_dec at h
  replace h := asB_inv h; obtain ⟨r0, rfl, h⟩ := h
  cases h
  rfl
theorem cadastrelaw0_LightLists_eq (k : Nat) (l0 : List (List S41)) (most1 : Int) : bodyK UX (cadastrelaw0_LightLists_cfg k) (cadastrelaw0_LightLists_G k) Try.f10 [.pv (.typ (.ll41 l0)), .pv (.int .i64 most1)] [] cadastrelaw0_LightLists_dec = cadastrelaw0_LightLists k l0 most1 := by kernel_rfl
theorem cadastrelaw0_LightLists_con (k : Nat) (l0 : List (List S41)) (most1 : Int) (r : Bool) (h : cadastrelaw0_LightLists k l0 most1 = some r) : Con (X := UX) Try.prog 10 [.pv (.typ (.ll41 l0)), .pv (.int .i64 most1)] [] (cadastrelaw0_LightLists_enc r) [] :=
  con_of_body xok tok Try.func10 cadastrelaw0_LightLists_body (cadastrelaw0_LightLists_gok k) rfl (cadastrelaw0_LightLists_cok k) (of_decide_eq_true (by kernel_rfl)) cadastrelaw0_LightLists_dec_enc ((cadastrelaw0_LightLists_eq k l0 most1).trans h)
noncomputable def cadastrelaw0_LightLists_an {ρ : Type} (k : Nat) : An UX ρ := fun args bx K =>
popA args fun v1 a2 =>
as_ll41 v1 fun l0 =>
popA a2 fun v3 a4 =>
asI .i64 v3 fun most1 =>
popN a4 <|
popN bx <|
(cadastrelaw0_LightLists k l0 most1).bind fun r => K (cadastrelaw0_LightLists_enc r) []
theorem cadastrelaw0_LightLists_ok {ρ : Type} (k : Nat) : AnsOK Try.prog 10 (cadastrelaw0_LightLists_an (ρ := ρ) k) := by
  intro args bx K r h
  unfold cadastrelaw0_LightLists_an at h
  replace h := popA_inv h; obtain ⟨v1, a2, rfl, h⟩ := h
  replace h := as_ll41_inv h; obtain ⟨l0, rfl, h⟩ := h
  replace h := popA_inv h; obtain ⟨v3, a4, rfl, h⟩ := h
  replace h := asI_inv h; obtain ⟨most1, rfl, h⟩ := h
  replace h := popN_inv h; obtain ⟨rfl, h⟩ := h
  replace h := popN_inv h; obtain ⟨rfl, h⟩ := h
  replace h := bind_inv h
  obtain ⟨x, hx, h⟩ := h
  exact ⟨there_of Try.func10 (by kernel_rfl) cadastrelaw0_LightLists_body, _, _, h, cadastrelaw0_LightLists_con k l0 most1 x hx⟩

/-! cadastre/cadastrelaw7.heavy -/
noncomputable def cadastrelaw7_heavy_code : Code := match Try.f4.body with | some c => c | none => .skip
theorem cadastrelaw7_heavy_body : Try.f4.body = some cadastrelaw7_heavy_code := by kernel_rfl
noncomputable def cadastrelaw7_heavy_G {ρ : Type} (k : Nat) : Ans UX ρ := gk 9 (cadastrelaw0_Light_an k) (gk 10 (cadastrelaw0_LightLists_an k) (gnil))
theorem cadastrelaw7_heavy_gok {ρ : Type} (k : Nat) : GOK Try.prog (cadastrelaw7_heavy_G (ρ := ρ) k) := gok_cons (cadastrelaw0_Light_ok k) (gok_cons (cadastrelaw0_LightLists_ok k) (gok_nil))
noncomputable def cadastrelaw7_heavy_cfg {ρ : Type} (k : Nat) : Cfg UX ρ where
  live i := (assoc [(0, [0]), (1, [1])] i).getD []
  boxes i := (assoc [(0, []), (1, [1])] i).getD []
  tk i := (assoc [] i).getD []
  n := 19
  labelR l := (assoc [] l).getD 0
  loops := assoc []
  labels := assoc []
  joins := assoc []
  xl i e := match e with
    | .nxt => assoc [] i
    | .ret => assoc [] i
    | .exit j => (assoc [] i).bind fun l => assoc l j
    | .goto j => (assoc [] i).bind fun l => assoc l j
noncomputable def cadastrelaw7_heavy_L : List Code := selI [] (loopsOf cadastrelaw7_heavy_code)
noncomputable def cadastrelaw7_heavy_J : List Code := selI [] (joinsOf cadastrelaw7_heavy_code)
noncomputable def cadastrelaw7_heavy_S : List Code := scopesOf cadastrelaw7_heavy_code
theorem cadastrelaw7_heavy_cok {ρ : Type} (k : Nat) : COK (cadastrelaw7_heavy_cfg (ρ := ρ) k) (cadastrelaw7_heavy_G k) cadastrelaw7_heavy_code :=
  cok_of (tl := []) (tj := []) (tb := []) rfl rfl rfl (nil_all (by kernel_rfl)) (nil_all (by kernel_rfl)) (fun p hp => by cases hp)
noncomputable def cadastrelaw7_heavy_enc (r : Bool) : AV UU := .pv (.bool r)
noncomputable def cadastrelaw7_heavy_dec (v : AV UU) (_ : List (List (AV UU))) : Option Bool :=
asB v fun r0 =>
some r0
theorem cadastrelaw7_heavy_dec_enc (v : AV UU) (b : List (List (AV UU))) (r : Bool) (h : cadastrelaw7_heavy_dec v b = some r) : v = cadastrelaw7_heavy_enc r := by
  unfold cadastrelaw7_heavy_dec at h
  replace h := asB_inv h; obtain ⟨r0, rfl, h⟩ := h
  cases h
  rfl
theorem cadastrelaw7_heavy_eq (k : Nat) (p0 : S25) : bodyK UX (cadastrelaw7_heavy_cfg k) (cadastrelaw7_heavy_G k) Try.f4 [.pv (.typ (.s25 p0))] [] cadastrelaw7_heavy_dec = cadastrelaw7_heavy k p0 := by kernel_rfl
theorem cadastrelaw7_heavy_con (k : Nat) (p0 : S25) (r : Bool) (h : cadastrelaw7_heavy k p0 = some r) : Con (X := UX) Try.prog 4 [.pv (.typ (.s25 p0))] [] (cadastrelaw7_heavy_enc r) [] :=
  con_of_body xok tok Try.func4 cadastrelaw7_heavy_body (cadastrelaw7_heavy_gok k) rfl (cadastrelaw7_heavy_cok k) (of_decide_eq_true (by kernel_rfl)) cadastrelaw7_heavy_dec_enc ((cadastrelaw7_heavy_eq k p0).trans h)
noncomputable def cadastrelaw7_heavy_an {ρ : Type} (k : Nat) : An UX ρ := fun args bx K =>
popA args fun v1 a2 =>
as_s25 v1 fun p0 =>
popN a2 <|
popN bx <|
(cadastrelaw7_heavy k p0).bind fun r => K (cadastrelaw7_heavy_enc r) []
theorem cadastrelaw7_heavy_ok {ρ : Type} (k : Nat) : AnsOK Try.prog 4 (cadastrelaw7_heavy_an (ρ := ρ) k) := by
  intro args bx K r h
  unfold cadastrelaw7_heavy_an at h
  replace h := popA_inv h; obtain ⟨v1, a2, rfl, h⟩ := h
  replace h := as_s25_inv h; obtain ⟨p0, rfl, h⟩ := h
  replace h := popN_inv h; obtain ⟨rfl, h⟩ := h
  replace h := popN_inv h; obtain ⟨rfl, h⟩ := h
  replace h := bind_inv h
  obtain ⟨x, hx, h⟩ := h
  exact ⟨there_of Try.func4 (by kernel_rfl) cadastrelaw7_heavy_body, _, _, h, cadastrelaw7_heavy_con k p0 x hx⟩

/-! cadastre/value.Good -/
noncomputable def value_Good_code : Code := match Try.f17.body with | some c => c | none => .skip
theorem value_Good_body : Try.f17.body = some value_Good_code := by kernel_rfl
noncomputable def value_Good_G {ρ : Type} (k : Nat) : Ans UX ρ := gnil
theorem value_Good_gok {ρ : Type} (k : Nat) : GOK Try.prog (value_Good_G (ρ := ρ) k) := gok_nil
noncomputable def value_Good_j8_s {ρ : Type} (k : Nat) : Run UX ρ := fun s K =>
popS 1 s.env fun v1 e2 =>
asP 1 0 v1 <|
popN e2 <|
popB 1 s.hp fun c3 e4 =>
popA c3 fun v5 c6 =>
asI .i64 v5 fun z7 =>
popA c6 fun v8 c9 =>
asI .i64 v8 fun z10 =>
popA c9 fun v11 c12 =>
asS v11 fun z13 =>
popN c12 <|
popN e4 <|
value_Good_j8 k (fun t2 => K .ret ⟨[(2, .pv (.bool t2))], []⟩) (⟨z7, z10, z13⟩ : S41)
noncomputable def value_Good_cfg {ρ : Type} (k : Nat) : Cfg UX ρ where
  live i := (assoc [(0, [0]), (1, [1]), (2, [1, 4]), (3, [1]), (4, [1, 4]), (5, [1]), (6, [1, 4]), (7, [1, 4]), (8, [1]), (9, [])] i).getD []
  boxes i := (assoc [(0, []), (1, [1]), (2, [1]), (3, [1]), (4, [1]), (5, [1]), (6, [1]), (7, [1]), (8, [1]), (9, [])] i).getD []
  tk i := (assoc [] i).getD []
  n := 27
  labelR l := (assoc [] l).getD 0
  loops := assoc []
  labels := assoc []
  joins := assoc [(8, value_Good_j8_s k)]
  xl i e := match e with
    | .nxt => assoc [] i
    | .ret => assoc [(8, ([2], []))] i
    | .exit j => (assoc [] i).bind fun l => assoc l j
    | .goto j => (assoc [] i).bind fun l => assoc l j
noncomputable def value_Good_L : List Code := selI [] (loopsOf value_Good_code)
noncomputable def value_Good_J : List Code := selI [8] (joinsOf value_Good_code)
noncomputable def value_Good_S : List Code := scopesOf value_Good_code
theorem value_Good_j8_eq0 {ρ : Type} (k : Nat) (K : Ex → St UU → Option ρ) (v1 : S41) : exec UX (value_Good_cfg k) (value_Good_G k) (value_Good_J.getD 0 .skip) ⟨[(1, .ptr 1 0)], [(1, [.pv (.int .i64 v1.f0), .pv (.int .i64 v1.f1), .pv (.str v1.f2)])]⟩ (nrmK UX (value_Good_cfg k) 8 K) = value_Good_j8 k (fun t2 => K .ret ⟨[(2, .pv (.bool t2))], []⟩) v1 := by kernel_rfl
theorem value_Good_j8_ok0 {ρ : Type} (k : Nat) : JoinOK UX (value_Good_cfg (ρ := ρ) k) (value_Good_G k) (value_Good_J.getD 0 .skip) 8 (value_Good_j8_s k) := by
  intro s K r h
  obtain ⟨env, hp⟩ := s
  unfold value_Good_j8_s at h
  replace h := popS_inv h; obtain ⟨v1, e2, rfl, h⟩ := h
  replace h := asP_inv h; obtain ⟨rfl, h⟩ := h
  replace h := popN_inv h; obtain ⟨rfl, h⟩ := h
  replace h := popB_inv h; obtain ⟨c3, e4, rfl, h⟩ := h
  replace h := popA_inv h; obtain ⟨v5, c6, rfl, h⟩ := h
  replace h := asI_inv h; obtain ⟨z7, rfl, h⟩ := h
  replace h := popA_inv h; obtain ⟨v8, c9, rfl, h⟩ := h
  replace h := asI_inv h; obtain ⟨z10, rfl, h⟩ := h
  replace h := popA_inv h; obtain ⟨v11, c12, rfl, h⟩ := h
  replace h := asS_inv h; obtain ⟨z13, rfl, h⟩ := h
  replace h := popN_inv h; obtain ⟨rfl, h⟩ := h
  replace h := popN_inv h; obtain ⟨rfl, h⟩ := h
  exact (value_Good_j8_eq0 k K (⟨z7, z10, z13⟩ : S41)).trans h
theorem value_Good_cok {ρ : Type} (k : Nat) : COK (value_Good_cfg (ρ := ρ) k) (value_Good_G k) value_Good_code :=
  cok_of (tl := []) (tj := [(8, value_Good_j8_s k)]) (tb := []) rfl rfl rfl (nil_all (by kernel_rfl)) (all_nth 1 (by kernel_rfl) ⟨join_case (by kernel_rfl) rfl (value_Good_j8_ok0 k), trivial⟩) (fun p hp => by cases hp)
noncomputable def value_Good_enc (r : Bool) : AV UU := .pv (.bool r)
noncomputable def value_Good_dec (v : AV UU) (_ : List (List (AV UU))) : Option Bool :=
asB v fun r0 =>
some r0
theorem value_Good_dec_enc (v : AV UU) (b : List (List (AV UU))) (r : Bool) (h : value_Good_dec v b = some r) : v = value_Good_enc r := by
  unfold value_Good_dec at h
  replace h := asB_inv h; obtain ⟨r0, rfl, h⟩ := h
  cases h
  rfl
theorem value_Good_eq (k : Nat) (v0 : S41) : bodyK UX (value_Good_cfg k) (value_Good_G k) Try.f17 [.pv (.typ (.s41 v0))] [] value_Good_dec = value_Good k v0 := by kernel_rfl
theorem value_Good_con (k : Nat) (v0 : S41) (r : Bool) (h : value_Good k v0 = some r) : Con (X := UX) Try.prog 17 [.pv (.typ (.s41 v0))] [] (value_Good_enc r) [] :=
  con_of_body xok tok Try.func17 value_Good_body (value_Good_gok k) rfl (value_Good_cok k) (of_decide_eq_true (by kernel_rfl)) value_Good_dec_enc ((value_Good_eq k v0).trans h)
noncomputable def value_Good_an {ρ : Type} (k : Nat) : An UX ρ := fun args bx K =>
popA args fun v1 a2 =>
as_s41 v1 fun v0 =>
popN a2 <|
popN bx <|
(value_Good k v0).bind fun r => K (value_Good_enc r) []
theorem value_Good_ok {ρ : Type} (k : Nat) : AnsOK Try.prog 17 (value_Good_an (ρ := ρ) k) := by
  intro args bx K r h
  unfold value_Good_an at h
  replace h := popA_inv h; obtain ⟨v1, a2, rfl, h⟩ := h
  replace h := as_s41_inv h; obtain ⟨v0, rfl, h⟩ := h
  replace h := popN_inv h; obtain ⟨rfl, h⟩ := h
  replace h := popN_inv h; obtain ⟨rfl, h⟩ := h
  replace h := bind_inv h
  obtain ⟨x, hx, h⟩ := h
  exact ⟨there_of Try.func17 (by kernel_rfl) value_Good_body, _, _, h, value_Good_con k v0 x hx⟩

/-! cadastre/value.All -/
noncomputable def value_All_code : Code := match Try.f15.body with | some c => c | none => .skip
theorem value_All_body : Try.f15.body = some value_All_code := by kernel_rfl
noncomputable def value_All_G {ρ : Type} (k : Nat) : Ans UX ρ := gk 17 (value_Good_an k) (gnil)
theorem value_All_gok {ρ : Type} (k : Nat) : GOK Try.prog (value_All_G (ρ := ρ) k) := gok_cons (value_Good_ok k) (gok_nil)
noncomputable def value_All_j2_s {ρ : Type} (k : Nat) : Run UX ρ := fun s K =>
popS 0 s.env fun v1 e2 =>
as_l41 v1 fun l0 =>
popS 3 e2 fun v3 e4 =>
asI .i64 v3 fun i3 =>
popN e4 <|
popN s.hp <|
value_All_j2 k (fun t2 => K .ret ⟨[(2, .pv (.bool t2))], []⟩) (fun l0 i3 => K (.goto 0) ⟨[(0, .pv (.typ (.l41 l0))), (3, .pv (.int .i64 i3))], []⟩) l0 i3
noncomputable def value_All_g0_s {ρ : Type} (k : Nat) : Run UX ρ := fun s K =>
popS 0 s.env fun v1 e2 =>
as_l41 v1 fun l0 =>
popS 3 e2 fun v3 e4 =>
asI .i64 v3 fun i3 =>
popN e4 <|
popN s.hp <|
value_All_g0 k (fun t2 => K .ret ⟨[(2, .pv (.bool t2))], []⟩) k l0 i3
noncomputable def value_All_cfg {ρ : Type} (k : Nat) : Cfg UX ρ where
  live i := (assoc [(0, [0]), (1, [0]), (2, [0, 3]), (3, []), (4, [0, 3]), (5, [0, 3]), (6, [])] i).getD []
  boxes i := (assoc [(0, []), (1, []), (2, []), (3, []), (4, []), (5, []), (6, [])] i).getD []
  tk i := (assoc [] i).getD []
  n := 15
  labelR l := (assoc [(0, 2)] l).getD 0
  loops := assoc []
  labels := assoc [(0, value_All_g0_s k)]
  joins := assoc [(2, value_All_j2_s k)]
  xl i e := match e with
    | .nxt => assoc [] i
    | .ret => assoc [(2, ([2], [])), (2, ([2], []))] i
    | .exit j => (assoc [] i).bind fun l => assoc l j
    | .goto j => (assoc [(2, [(0, ([0, 3], []))])] i).bind fun l => assoc l j
noncomputable def value_All_L : List Code := selI [] (loopsOf value_All_code)
noncomputable def value_All_J : List Code := selI [2] (joinsOf value_All_code)
noncomputable def value_All_S : List Code := scopesOf value_All_code
theorem value_All_j2_eq0 {ρ : Type} (k : Nat) (K : Ex → St UU → Option ρ) (l0 : List S41) (i3 : Int) : exec UX (value_All_cfg k) (value_All_G k) (value_All_J.getD 0 .skip) ⟨[(0, .pv (.typ (.l41 l0))), (3, .pv (.int .i64 i3))], []⟩ (nrmK UX (value_All_cfg k) 2 K) = value_All_j2 k (fun t2 => K .ret ⟨[(2, .pv (.bool t2))], []⟩) (fun l0 i3 => K (.goto 0) ⟨[(0, .pv (.typ (.l41 l0))), (3, .pv (.int .i64 i3))], []⟩) l0 i3 := by kernel_rfl
theorem value_All_j2_ok0 {ρ : Type} (k : Nat) : JoinOK UX (value_All_cfg (ρ := ρ) k) (value_All_G k) (value_All_J.getD 0 .skip) 2 (value_All_j2_s k) := by
  intro s K r h
  obtain ⟨env, hp⟩ := s
  unfold value_All_j2_s at h
  replace h := popS_inv h; obtain ⟨v1, e2, rfl, h⟩ := h
  replace h := as_l41_inv h; obtain ⟨l0, rfl, h⟩ := h
  replace h := popS_inv h; obtain ⟨v3, e4, rfl, h⟩ := h
  replace h := asI_inv h; obtain ⟨i3, rfl, h⟩ := h
  replace h := popN_inv h; obtain ⟨rfl, h⟩ := h
  replace h := popN_inv h; obtain ⟨rfl, h⟩ := h
  exact (value_All_j2_eq0 k K l0 i3).trans h
noncomputable def value_All_g0_f0 {ρ : Type} (k : Nat) : Run UX ρ := (suff UX (value_All_cfg k) (value_All_G k) (value_All_S.getD 0 .skip) 0).getD fun _ _ => none
theorem value_All_g0_eq0 {ρ : Type} (k : Nat) (K : Ex → St UU → Option ρ) : ∀ (n : Nat) (v : (List S41) × Int), scopeN UX (fun l s => s.at (value_All_cfg (ρ := ρ) k).live (value_All_cfg (ρ := ρ) k).boxes (some ((value_All_cfg (ρ := ρ) k).labelR l))) (suff UX (value_All_cfg k) (value_All_G k) (value_All_S.getD 0 .skip)) (fun l => ((value_All_cfg (ρ := ρ) k).labels l).isSome) n (value_All_g0_f0 k) ⟨[(0, .pv (.typ (.l41 v.1))), (3, .pv (.int .i64 v.2))], []⟩ (nrmK UX (value_All_cfg k) ((value_All_cfg (ρ := ρ) k).labelR 0) K) = value_All_g0 k (fun t2 => K .ret ⟨[(2, .pv (.bool t2))], []⟩) n v.1 v.2 :=
  scope_rec (X := UX) (fun _ => value_All_g0_f0 k) (fun v => ⟨[(0, .pv (.typ (.l41 v.1))), (3, .pv (.int .i64 v.2))], []⟩) (fun rec v => value_All_g0_b k (fun t2 => K .ret ⟨[(2, .pv (.bool t2))], []⟩) (fun l0 i3 => rec (l0, i3)) v.1 v.2) (fun n v => value_All_g0 k (fun t2 => K .ret ⟨[(2, .pv (.bool t2))], []⟩) n v.1 v.2) (fun n v => by kernel_rfl) (fun _ => rfl) (fun _ _ => rfl)
theorem value_All_g0_ok0 {ρ : Type} (k : Nat) : LabOK UX (value_All_cfg (ρ := ρ) k) (value_All_G k) (value_All_S.getD 0 .skip) 0 (value_All_g0_s k) := by
  intro f hf s K r h
  have hf : value_All_g0_f0 k = f := by unfold value_All_g0_f0; rw [hf]; rfl
  subst hf
  obtain ⟨env, hp⟩ := s
  unfold value_All_g0_s at h
  replace h := popS_inv h; obtain ⟨v1, e2, rfl, h⟩ := h
  replace h := as_l41_inv h; obtain ⟨l0, rfl, h⟩ := h
  replace h := popS_inv h; obtain ⟨v3, e4, rfl, h⟩ := h
  replace h := asI_inv h; obtain ⟨i3, rfl, h⟩ := h
  replace h := popN_inv h; obtain ⟨rfl, h⟩ := h
  replace h := popN_inv h; obtain ⟨rfl, h⟩ := h
  exact ⟨k, (value_All_g0_eq0 k K k (l0, i3)).trans h⟩
theorem value_All_cok {ρ : Type} (k : Nat) : COK (value_All_cfg (ρ := ρ) k) (value_All_G k) value_All_code :=
  cok_of (tl := []) (tj := [(2, value_All_j2_s k)]) (tb := [(0, value_All_g0_s k)]) rfl rfl rfl (nil_all (by kernel_rfl)) (all_nth 1 (by kernel_rfl) ⟨join_case (by kernel_rfl) rfl (value_All_j2_ok0 k), trivial⟩) (fun p hp => by
    simp only [List.mem_cons, List.not_mem_nil, or_false] at hp
    subst hp
    · exact all_nth 1 (by kernel_rfl) ⟨value_All_g0_ok0 k, trivial⟩)
noncomputable def value_All_enc (r : Bool) : AV UU := .pv (.bool r)
noncomputable def value_All_dec (v : AV UU) (_ : List (List (AV UU))) : Option Bool :=
asB v fun r0 =>
some r0
theorem value_All_dec_enc (v : AV UU) (b : List (List (AV UU))) (r : Bool) (h : value_All_dec v b = some r) : v = value_All_enc r := by
  unfold value_All_dec at h
  replace h := asB_inv h; obtain ⟨r0, rfl, h⟩ := h
  cases h
  rfl
theorem value_All_eq (k : Nat) (l0 : List S41) : bodyK UX (value_All_cfg k) (value_All_G k) Try.f15 [.pv (.typ (.l41 l0))] [] value_All_dec = value_All k l0 := by kernel_rfl
theorem value_All_con (k : Nat) (l0 : List S41) (r : Bool) (h : value_All k l0 = some r) : Con (X := UX) Try.prog 15 [.pv (.typ (.l41 l0))] [] (value_All_enc r) [] :=
  con_of_body xok tok Try.func15 value_All_body (value_All_gok k) rfl (value_All_cok k) (of_decide_eq_true (by kernel_rfl)) value_All_dec_enc ((value_All_eq k l0).trans h)
noncomputable def value_All_an {ρ : Type} (k : Nat) : An UX ρ := fun args bx K =>
popA args fun v1 a2 =>
as_l41 v1 fun l0 =>
popN a2 <|
popN bx <|
(value_All k l0).bind fun r => K (value_All_enc r) []
theorem value_All_ok {ρ : Type} (k : Nat) : AnsOK Try.prog 15 (value_All_an (ρ := ρ) k) := by
  intro args bx K r h
  unfold value_All_an at h
  replace h := popA_inv h; obtain ⟨v1, a2, rfl, h⟩ := h
  replace h := as_l41_inv h; obtain ⟨l0, rfl, h⟩ := h
  replace h := popN_inv h; obtain ⟨rfl, h⟩ := h
  replace h := popN_inv h; obtain ⟨rfl, h⟩ := h
  replace h := bind_inv h
  obtain ⟨x, hx, h⟩ := h
  exact ⟨there_of Try.func15 (by kernel_rfl) value_All_body, _, _, h, value_All_con k l0 x hx⟩

/-! cadastre/keys.Check -/
noncomputable def keys_Check_code : Code := match Try.f11.body with | some c => c | none => .skip
theorem keys_Check_body : Try.f11.body = some keys_Check_code := by kernel_rfl
noncomputable def keys_Check_G {ρ : Type} (k : Nat) : Ans UX ρ := gk 15 (value_All_an k) (gnil)
theorem keys_Check_gok {ρ : Type} (k : Nat) : GOK Try.prog (keys_Check_G (ρ := ρ) k) := gok_cons (value_All_ok k) (gok_nil)
noncomputable def keys_Check_l3_s {ρ : Type} (k : Nat) : Run UX ρ := fun s K =>
popS 3 s.env fun v1 e2 =>
asI .i64 v1 fun e3 =>
popS 6 e2 fun v3 e4 =>
as_ll41 v3 fun t6 =>
popS 7 e4 fun v5 e6 =>
asI .i64 v5 fun t7 =>
popS 8 e6 fun v7 e8 =>
asI .i64 v7 fun t8 =>
popN e8 <|
popN s.hp <|
keys_Check_l3 k (fun t2 => K .ret ⟨[(2, .pv (.int .i64 t2))], []⟩) (fun e3 => K (.exit 0) ⟨[(3, .pv (.int .i64 e3))], []⟩) k e3 t6 t7 t8
noncomputable def keys_Check_cfg {ρ : Type} (k : Nat) : Cfg UX ρ where
  live i := (assoc [(0, [0]), (1, [0]), (2, [0, 3]), (3, [3, 6, 7, 8]), (4, [3, 6, 7, 8]), (5, [3, 5, 6, 7, 8]), (6, []), (7, [3, 5, 6, 7, 8]), (8, [6, 7, 8]), (9, [3, 6, 7, 8]), (10, [3])] i).getD []
  boxes i := (assoc [(0, []), (1, []), (2, []), (3, []), (4, []), (5, []), (6, []), (7, []), (8, []), (9, []), (10, [])] i).getD []
  tk i := (assoc [] i).getD []
  n := 20
  labelR l := (assoc [] l).getD 0
  loops := assoc [(3, keys_Check_l3_s k)]
  labels := assoc []
  joins := assoc []
  xl i e := match e with
    | .nxt => assoc [] i
    | .ret => assoc [(3, ([2], []))] i
    | .exit j => (assoc [(3, [(0, ([3], []))])] i).bind fun l => assoc l j
    | .goto j => (assoc [] i).bind fun l => assoc l j
noncomputable def keys_Check_L : List Code := selI [3] (loopsOf keys_Check_code)
noncomputable def keys_Check_J : List Code := selI [] (joinsOf keys_Check_code)
noncomputable def keys_Check_S : List Code := scopesOf keys_Check_code
theorem keys_Check_l3_eq0 {ρ : Type} (k : Nat) (K : Ex → St UU → Option ρ) : ∀ (n : Nat) (v : Int × (List (List S41)) × Int × Int), iterK UX (fun s => s.at (keys_Check_cfg (ρ := ρ) k).live (keys_Check_cfg (ρ := ρ) k).boxes (some 3)) (exec UX (keys_Check_cfg k) (keys_Check_G k) (keys_Check_L.getD 0 .skip)) n ⟨[(3, .pv (.int .i64 v.1)), (6, .pv (.typ (.ll41 v.2.1))), (7, .pv (.int .i64 v.2.2.1)), (8, .pv (.int .i64 v.2.2.2))], []⟩ (nrmK UX (keys_Check_cfg k) 3 K) = keys_Check_l3 k (fun t2 => K .ret ⟨[(2, .pv (.int .i64 t2))], []⟩) (fun e3 => K (.exit 0) ⟨[(3, .pv (.int .i64 e3))], []⟩) n v.1 v.2.1 v.2.2.1 v.2.2.2 :=
  iter_rec (X := UX) (fun v => ⟨[(3, .pv (.int .i64 v.1)), (6, .pv (.typ (.ll41 v.2.1))), (7, .pv (.int .i64 v.2.2.1)), (8, .pv (.int .i64 v.2.2.2))], []⟩) (fun rec v => keys_Check_l3_b k (fun t2 => K .ret ⟨[(2, .pv (.int .i64 t2))], []⟩) (fun e3 => K (.exit 0) ⟨[(3, .pv (.int .i64 e3))], []⟩) (fun e3 t6 t7 t8 => rec (e3, t6, t7, t8)) v.1 v.2.1 v.2.2.1 v.2.2.2) (fun n v => keys_Check_l3 k (fun t2 => K .ret ⟨[(2, .pv (.int .i64 t2))], []⟩) (fun e3 => K (.exit 0) ⟨[(3, .pv (.int .i64 e3))], []⟩) n v.1 v.2.1 v.2.2.1 v.2.2.2) (fun n v => by kernel_rfl) (fun _ => rfl) (fun _ _ => rfl)
theorem keys_Check_l3_ok0 {ρ : Type} (k : Nat) : IterOK UX (keys_Check_cfg (ρ := ρ) k) (keys_Check_G k) (keys_Check_L.getD 0 .skip) 3 (keys_Check_l3_s k) := by
  intro s K r h
  obtain ⟨env, hp⟩ := s
  unfold keys_Check_l3_s at h
  replace h := popS_inv h; obtain ⟨v1, e2, rfl, h⟩ := h
  replace h := asI_inv h; obtain ⟨e3, rfl, h⟩ := h
  replace h := popS_inv h; obtain ⟨v3, e4, rfl, h⟩ := h
  replace h := as_ll41_inv h; obtain ⟨t6, rfl, h⟩ := h
  replace h := popS_inv h; obtain ⟨v5, e6, rfl, h⟩ := h
  replace h := asI_inv h; obtain ⟨t7, rfl, h⟩ := h
  replace h := popS_inv h; obtain ⟨v7, e8, rfl, h⟩ := h
  replace h := asI_inv h; obtain ⟨t8, rfl, h⟩ := h
  replace h := popN_inv h; obtain ⟨rfl, h⟩ := h
  replace h := popN_inv h; obtain ⟨rfl, h⟩ := h
  exact ⟨k, (keys_Check_l3_eq0 k K k (e3, t6, t7, t8)).trans h⟩
theorem keys_Check_cok {ρ : Type} (k : Nat) : COK (keys_Check_cfg (ρ := ρ) k) (keys_Check_G k) keys_Check_code :=
  cok_of (tl := [(3, keys_Check_l3_s k)]) (tj := []) (tb := []) rfl rfl rfl (all_nth 1 (by kernel_rfl) ⟨iter_case (by kernel_rfl) rfl (keys_Check_l3_ok0 k), trivial⟩) (nil_all (by kernel_rfl)) (fun p hp => by cases hp)
noncomputable def keys_Check_enc (r : Int) : AV UU := .pv (.int .i64 r)
noncomputable def keys_Check_dec (v : AV UU) (_ : List (List (AV UU))) : Option Int :=
asI .i64 v fun r0 =>
some r0
theorem keys_Check_dec_enc (v : AV UU) (b : List (List (AV UU))) (r : Int) (h : keys_Check_dec v b = some r) : v = keys_Check_enc r := by
  unfold keys_Check_dec at h
  replace h := asI_inv h; obtain ⟨r0, rfl, h⟩ := h
  cases h
  rfl
theorem keys_Check_eq (k : Nat) (l0 : List (List S41)) : bodyK UX (keys_Check_cfg k) (keys_Check_G k) Try.f11 [.pv (.typ (.ll41 l0))] [] keys_Check_dec = keys_Check k l0 := by kernel_rfl
theorem keys_Check_con (k : Nat) (l0 : List (List S41)) (r : Int) (h : keys_Check k l0 = some r) : Con (X := UX) Try.prog 11 [.pv (.typ (.ll41 l0))] [] (keys_Check_enc r) [] :=
  con_of_body xok tok Try.func11 keys_Check_body (keys_Check_gok k) rfl (keys_Check_cok k) (of_decide_eq_true (by kernel_rfl)) keys_Check_dec_enc ((keys_Check_eq k l0).trans h)
noncomputable def keys_Check_an {ρ : Type} (k : Nat) : An UX ρ := fun args bx K =>
popA args fun v1 a2 =>
as_ll41 v1 fun l0 =>
popN a2 <|
popN bx <|
(keys_Check k l0).bind fun r => K (keys_Check_enc r) []
theorem keys_Check_ok {ρ : Type} (k : Nat) : AnsOK Try.prog 11 (keys_Check_an (ρ := ρ) k) := by
  intro args bx K r h
  unfold keys_Check_an at h
  replace h := popA_inv h; obtain ⟨v1, a2, rfl, h⟩ := h
  replace h := as_ll41_inv h; obtain ⟨l0, rfl, h⟩ := h
  replace h := popN_inv h; obtain ⟨rfl, h⟩ := h
  replace h := popN_inv h; obtain ⟨rfl, h⟩ := h
  replace h := bind_inv h
  obtain ⟨x, hx, h⟩ := h
  exact ⟨there_of Try.func11 (by kernel_rfl) keys_Check_body, _, _, h, keys_Check_con k l0 x hx⟩

/-! cadastre/value.sign -/
noncomputable def value_sign_code : Code := match Try.f18.body with | some c => c | none => .skip
theorem value_sign_body : Try.f18.body = some value_sign_code := by kernel_rfl
noncomputable def value_sign_G {ρ : Type} (k : Nat) : Ans UX ρ := gnil
theorem value_sign_gok {ρ : Type} (k : Nat) : GOK Try.prog (value_sign_G (ρ := ρ) k) := gok_nil
noncomputable def value_sign_cfg {ρ : Type} (k : Nat) : Cfg UX ρ where
  live i := (assoc [(0, [0, 1]), (1, [0, 1]), (2, []), (3, [0, 1]), (4, []), (5, [])] i).getD []
  boxes i := (assoc [(0, []), (1, []), (2, []), (3, []), (4, []), (5, [])] i).getD []
  tk i := (assoc [] i).getD []
  n := 13
  labelR l := (assoc [] l).getD 0
  loops := assoc []
  labels := assoc []
  joins := assoc []
  xl i e := match e with
    | .nxt => assoc [] i
    | .ret => assoc [] i
    | .exit j => (assoc [] i).bind fun l => assoc l j
    | .goto j => (assoc [] i).bind fun l => assoc l j
noncomputable def value_sign_L : List Code := selI [] (loopsOf value_sign_code)
noncomputable def value_sign_J : List Code := selI [] (joinsOf value_sign_code)
noncomputable def value_sign_S : List Code := scopesOf value_sign_code
theorem value_sign_cok {ρ : Type} (k : Nat) : COK (value_sign_cfg (ρ := ρ) k) (value_sign_G k) value_sign_code :=
  cok_of (tl := []) (tj := []) (tb := []) rfl rfl rfl (nil_all (by kernel_rfl)) (nil_all (by kernel_rfl)) (fun p hp => by cases hp)
noncomputable def value_sign_enc (r : Int) : AV UU := .pv (.int .i64 r)
noncomputable def value_sign_dec (v : AV UU) (_ : List (List (AV UU))) : Option Int :=
asI .i64 v fun r0 =>
some r0
theorem value_sign_dec_enc (v : AV UU) (b : List (List (AV UU))) (r : Int) (h : value_sign_dec v b = some r) : v = value_sign_enc r := by
  unfold value_sign_dec at h
  replace h := asI_inv h; obtain ⟨r0, rfl, h⟩ := h
  cases h
  rfl
theorem value_sign_eq (k : Nat) (a0 : Int) (b1 : Int) : bodyK UX (value_sign_cfg k) (value_sign_G k) Try.f18 [.pv (.int .i64 a0), .pv (.int .i64 b1)] [] value_sign_dec = value_sign k a0 b1 := by kernel_rfl
theorem value_sign_con (k : Nat) (a0 : Int) (b1 : Int) (r : Int) (h : value_sign k a0 b1 = some r) : Con (X := UX) Try.prog 18 [.pv (.int .i64 a0), .pv (.int .i64 b1)] [] (value_sign_enc r) [] :=
  con_of_body xok tok Try.func18 value_sign_body (value_sign_gok k) rfl (value_sign_cok k) (of_decide_eq_true (by kernel_rfl)) value_sign_dec_enc ((value_sign_eq k a0 b1).trans h)
noncomputable def value_sign_an {ρ : Type} (k : Nat) : An UX ρ := fun args bx K =>
popA args fun v1 a2 =>
asI .i64 v1 fun a0 =>
popA a2 fun v3 a4 =>
asI .i64 v3 fun b1 =>
popN a4 <|
popN bx <|
(value_sign k a0 b1).bind fun r => K (value_sign_enc r) []
theorem value_sign_ok {ρ : Type} (k : Nat) : AnsOK Try.prog 18 (value_sign_an (ρ := ρ) k) := by
  intro args bx K r h
  unfold value_sign_an at h
  replace h := popA_inv h; obtain ⟨v1, a2, rfl, h⟩ := h
  replace h := asI_inv h; obtain ⟨a0, rfl, h⟩ := h
  replace h := popA_inv h; obtain ⟨v3, a4, rfl, h⟩ := h
  replace h := asI_inv h; obtain ⟨b1, rfl, h⟩ := h
  replace h := popN_inv h; obtain ⟨rfl, h⟩ := h
  replace h := popN_inv h; obtain ⟨rfl, h⟩ := h
  replace h := bind_inv h
  obtain ⟨x, hx, h⟩ := h
  exact ⟨there_of Try.func18 (by kernel_rfl) value_sign_body, _, _, h, value_sign_con k a0 b1 x hx⟩

/-! cadastre/value.text -/
noncomputable def value_text_code : Code := match Try.f19.body with | some c => c | none => .skip
theorem value_text_body : Try.f19.body = some value_text_code := by kernel_rfl
noncomputable def value_text_G {ρ : Type} (k : Nat) : Ans UX ρ := gk 18 (value_sign_an k) (gnil)
theorem value_text_gok {ρ : Type} (k : Nat) : GOK Try.prog (value_text_G (ρ := ρ) k) := gok_cons (value_sign_ok k) (gok_nil)
noncomputable def value_text_j3_s {ρ : Type} (k : Nat) : Run UX ρ := fun s K =>
popS 0 s.env fun v1 e2 =>
asS v1 fun a0 =>
popS 1 e2 fun v3 e4 =>
asS v3 fun b1 =>
popS 5 e4 fun v5 e6 =>
asI .i64 v5 fun i5 =>
popN e6 <|
popN s.hp <|
value_text_j3 k (fun a0 b1 i5 => K (.goto 0) ⟨[(0, .pv (.str a0)), (1, .pv (.str b1)), (5, .pv (.int .i64 i5))], []⟩) (fun a0 b1 i5 => K .nxt ⟨[(0, .pv (.str a0)), (1, .pv (.str b1)), (5, .pv (.int .i64 i5))], []⟩) a0 b1 i5
noncomputable def value_text_l2_s {ρ : Type} (k : Nat) : Run UX ρ := fun s K =>
popS 0 s.env fun v1 e2 =>
asS v1 fun a0 =>
popS 1 e2 fun v3 e4 =>
asS v3 fun b1 =>
popS 5 e4 fun v5 e6 =>
asI .i64 v5 fun i5 =>
popN e6 <|
popN s.hp <|
value_text_l2 k (fun a0 b1 i5 => K (.goto 0) ⟨[(0, .pv (.str a0)), (1, .pv (.str b1)), (5, .pv (.int .i64 i5))], []⟩) (fun a0 b1 => K (.exit 0) ⟨[(0, .pv (.str a0)), (1, .pv (.str b1))], []⟩) k a0 b1 i5
noncomputable def value_text_cfg {ρ : Type} (k : Nat) : Cfg UX ρ where
  live i := (assoc [(0, [0, 1]), (1, [0, 1]), (2, [0, 1, 5]), (3, [0, 1, 5]), (4, [0, 1, 5]), (5, [0, 1]), (6, [0, 1, 5])] i).getD []
  boxes i := (assoc [(0, []), (1, []), (2, []), (3, []), (4, []), (5, []), (6, [])] i).getD []
  tk i := (assoc [] i).getD []
  n := 39
  labelR l := (assoc [] l).getD 0
  loops := assoc [(2, value_text_l2_s k)]
  labels := assoc []
  joins := assoc [(3, value_text_j3_s k)]
  xl i e := match e with
    | .nxt => assoc [(3, ([0, 1, 5], []))] i
    | .ret => assoc [] i
    | .exit j => (assoc [(2, [(0, ([0, 1], []))])] i).bind fun l => assoc l j
    | .goto j => (assoc [(3, [(0, ([0, 1, 5], []))]), (2, [(0, ([0, 1, 5], []))])] i).bind fun l => assoc l j
noncomputable def value_text_L : List Code := selI [2] (loopsOf value_text_code)
noncomputable def value_text_J : List Code := selI [3] (joinsOf value_text_code)
noncomputable def value_text_S : List Code := scopesOf value_text_code
theorem value_text_l2_eq0 {ρ : Type} (k : Nat) (K : Ex → St UU → Option ρ) : ∀ (n : Nat) (v : ByteArray × ByteArray × Int), iterK UX (fun s => s.at (value_text_cfg (ρ := ρ) k).live (value_text_cfg (ρ := ρ) k).boxes (some 2)) (exec UX (value_text_cfg k) (value_text_G k) (value_text_L.getD 0 .skip)) n ⟨[(0, .pv (.str v.1)), (1, .pv (.str v.2.1)), (5, .pv (.int .i64 v.2.2))], []⟩ (nrmK UX (value_text_cfg k) 2 K) = value_text_l2 k (fun a0 b1 i5 => K (.goto 0) ⟨[(0, .pv (.str a0)), (1, .pv (.str b1)), (5, .pv (.int .i64 i5))], []⟩) (fun a0 b1 => K (.exit 0) ⟨[(0, .pv (.str a0)), (1, .pv (.str b1))], []⟩) n v.1 v.2.1 v.2.2 :=
  iter_rec (X := UX) (fun v => ⟨[(0, .pv (.str v.1)), (1, .pv (.str v.2.1)), (5, .pv (.int .i64 v.2.2))], []⟩) (fun rec v => value_text_l2_b k (fun a0 b1 i5 => K (.goto 0) ⟨[(0, .pv (.str a0)), (1, .pv (.str b1)), (5, .pv (.int .i64 i5))], []⟩) (fun a0 b1 => K (.exit 0) ⟨[(0, .pv (.str a0)), (1, .pv (.str b1))], []⟩) (fun a0 b1 i5 => rec (a0, b1, i5)) v.1 v.2.1 v.2.2) (fun n v => value_text_l2 k (fun a0 b1 i5 => K (.goto 0) ⟨[(0, .pv (.str a0)), (1, .pv (.str b1)), (5, .pv (.int .i64 i5))], []⟩) (fun a0 b1 => K (.exit 0) ⟨[(0, .pv (.str a0)), (1, .pv (.str b1))], []⟩) n v.1 v.2.1 v.2.2) (fun n v => by kernel_rfl) (fun _ => rfl) (fun _ _ => rfl)
theorem value_text_l2_ok0 {ρ : Type} (k : Nat) : IterOK UX (value_text_cfg (ρ := ρ) k) (value_text_G k) (value_text_L.getD 0 .skip) 2 (value_text_l2_s k) := by
  intro s K r h
  obtain ⟨env, hp⟩ := s
  unfold value_text_l2_s at h
  replace h := popS_inv h; obtain ⟨v1, e2, rfl, h⟩ := h
  replace h := asS_inv h; obtain ⟨a0, rfl, h⟩ := h
  replace h := popS_inv h; obtain ⟨v3, e4, rfl, h⟩ := h
  replace h := asS_inv h; obtain ⟨b1, rfl, h⟩ := h
  replace h := popS_inv h; obtain ⟨v5, e6, rfl, h⟩ := h
  replace h := asI_inv h; obtain ⟨i5, rfl, h⟩ := h
  replace h := popN_inv h; obtain ⟨rfl, h⟩ := h
  replace h := popN_inv h; obtain ⟨rfl, h⟩ := h
  exact ⟨k, (value_text_l2_eq0 k K k (a0, b1, i5)).trans h⟩
theorem value_text_j3_eq0 {ρ : Type} (k : Nat) (K : Ex → St UU → Option ρ) (a0 : ByteArray) (b1 : ByteArray) (i5 : Int) : exec UX (value_text_cfg k) (value_text_G k) (value_text_J.getD 0 .skip) ⟨[(0, .pv (.str a0)), (1, .pv (.str b1)), (5, .pv (.int .i64 i5))], []⟩ (nrmK UX (value_text_cfg k) 3 K) = value_text_j3 k (fun a0 b1 i5 => K (.goto 0) ⟨[(0, .pv (.str a0)), (1, .pv (.str b1)), (5, .pv (.int .i64 i5))], []⟩) (fun a0 b1 i5 => K .nxt ⟨[(0, .pv (.str a0)), (1, .pv (.str b1)), (5, .pv (.int .i64 i5))], []⟩) a0 b1 i5 := by kernel_rfl
theorem value_text_j3_ok0 {ρ : Type} (k : Nat) : JoinOK UX (value_text_cfg (ρ := ρ) k) (value_text_G k) (value_text_J.getD 0 .skip) 3 (value_text_j3_s k) := by
  intro s K r h
  obtain ⟨env, hp⟩ := s
  unfold value_text_j3_s at h
  replace h := popS_inv h; obtain ⟨v1, e2, rfl, h⟩ := h
  replace h := asS_inv h; obtain ⟨a0, rfl, h⟩ := h
  replace h := popS_inv h; obtain ⟨v3, e4, rfl, h⟩ := h
  replace h := asS_inv h; obtain ⟨b1, rfl, h⟩ := h
  replace h := popS_inv h; obtain ⟨v5, e6, rfl, h⟩ := h
  replace h := asI_inv h; obtain ⟨i5, rfl, h⟩ := h
  replace h := popN_inv h; obtain ⟨rfl, h⟩ := h
  replace h := popN_inv h; obtain ⟨rfl, h⟩ := h
  exact (value_text_j3_eq0 k K a0 b1 i5).trans h
theorem value_text_cok {ρ : Type} (k : Nat) : COK (value_text_cfg (ρ := ρ) k) (value_text_G k) value_text_code :=
  cok_of (tl := [(2, value_text_l2_s k)]) (tj := [(3, value_text_j3_s k)]) (tb := []) rfl rfl rfl (all_nth 1 (by kernel_rfl) ⟨iter_case (by kernel_rfl) rfl (value_text_l2_ok0 k), trivial⟩) (all_nth 1 (by kernel_rfl) ⟨join_case (by kernel_rfl) rfl (value_text_j3_ok0 k), trivial⟩) (fun p hp => by cases hp)
noncomputable def value_text_enc (r : Int) : AV UU := .pv (.int .i64 r)
noncomputable def value_text_dec (v : AV UU) (_ : List (List (AV UU))) : Option Int :=
asI .i64 v fun r0 =>
some r0
theorem value_text_dec_enc (v : AV UU) (b : List (List (AV UU))) (r : Int) (h : value_text_dec v b = some r) : v = value_text_enc r := by
  unfold value_text_dec at h
  replace h := asI_inv h; obtain ⟨r0, rfl, h⟩ := h
  cases h
  rfl
theorem value_text_eq (k : Nat) (a0 : ByteArray) (b1 : ByteArray) : bodyK UX (value_text_cfg k) (value_text_G k) Try.f19 [.pv (.str a0), .pv (.str b1)] [] value_text_dec = value_text k a0 b1 := by kernel_rfl
theorem value_text_con (k : Nat) (a0 : ByteArray) (b1 : ByteArray) (r : Int) (h : value_text k a0 b1 = some r) : Con (X := UX) Try.prog 19 [.pv (.str a0), .pv (.str b1)] [] (value_text_enc r) [] :=
  con_of_body xok tok Try.func19 value_text_body (value_text_gok k) rfl (value_text_cok k) (of_decide_eq_true (by kernel_rfl)) value_text_dec_enc ((value_text_eq k a0 b1).trans h)
noncomputable def value_text_an {ρ : Type} (k : Nat) : An UX ρ := fun args bx K =>
popA args fun v1 a2 =>
asS v1 fun a0 =>
popA a2 fun v3 a4 =>
asS v3 fun b1 =>
popN a4 <|
popN bx <|
(value_text k a0 b1).bind fun r => K (value_text_enc r) []
theorem value_text_ok {ρ : Type} (k : Nat) : AnsOK Try.prog 19 (value_text_an (ρ := ρ) k) := by
  intro args bx K r h
  unfold value_text_an at h
  replace h := popA_inv h; obtain ⟨v1, a2, rfl, h⟩ := h
  replace h := asS_inv h; obtain ⟨a0, rfl, h⟩ := h
  replace h := popA_inv h; obtain ⟨v3, a4, rfl, h⟩ := h
  replace h := asS_inv h; obtain ⟨b1, rfl, h⟩ := h
  replace h := popN_inv h; obtain ⟨rfl, h⟩ := h
  replace h := popN_inv h; obtain ⟨rfl, h⟩ := h
  replace h := bind_inv h
  obtain ⟨x, hx, h⟩ := h
  exact ⟨there_of Try.func19 (by kernel_rfl) value_text_body, _, _, h, value_text_con k a0 b1 x hx⟩

/-! cadastre/value.Order -/
noncomputable def value_Order_code : Code := match Try.f16.body with | some c => c | none => .skip
theorem value_Order_body : Try.f16.body = some value_Order_code := by kernel_rfl
noncomputable def value_Order_G {ρ : Type} (k : Nat) : Ans UX ρ := gk 18 (value_sign_an k) (gk 19 (value_text_an k) (gnil))
theorem value_Order_gok {ρ : Type} (k : Nat) : GOK Try.prog (value_Order_G (ρ := ρ) k) := gok_cons (value_sign_ok k) (gok_cons (value_text_ok k) (gok_nil))
noncomputable def value_Order_cfg {ρ : Type} (k : Nat) : Cfg UX ρ where
  live i := (assoc [(0, [0, 1]), (1, [2, 3]), (2, [2, 3]), (3, [2, 3]), (4, [2, 3]), (5, [2, 3])] i).getD []
  boxes i := (assoc [(0, []), (1, [2, 3]), (2, [2, 3]), (3, [2, 3]), (4, [2, 3]), (5, [2, 3])] i).getD []
  tk i := (assoc [] i).getD []
  n := 30
  labelR l := (assoc [] l).getD 0
  loops := assoc []
  labels := assoc []
  joins := assoc []
  xl i e := match e with
    | .nxt => assoc [] i
    | .ret => assoc [] i
    | .exit j => (assoc [] i).bind fun l => assoc l j
    | .goto j => (assoc [] i).bind fun l => assoc l j
noncomputable def value_Order_L : List Code := selI [] (loopsOf value_Order_code)
noncomputable def value_Order_J : List Code := selI [] (joinsOf value_Order_code)
noncomputable def value_Order_S : List Code := scopesOf value_Order_code
theorem value_Order_cok {ρ : Type} (k : Nat) : COK (value_Order_cfg (ρ := ρ) k) (value_Order_G k) value_Order_code :=
  cok_of (tl := []) (tj := []) (tb := []) rfl rfl rfl (nil_all (by kernel_rfl)) (nil_all (by kernel_rfl)) (fun p hp => by cases hp)
noncomputable def value_Order_enc (r : Int) : AV UU := .pv (.int .i64 r)
noncomputable def value_Order_dec (v : AV UU) (_ : List (List (AV UU))) : Option Int :=
asI .i64 v fun r0 =>
some r0
theorem value_Order_dec_enc (v : AV UU) (b : List (List (AV UU))) (r : Int) (h : value_Order_dec v b = some r) : v = value_Order_enc r := by
  unfold value_Order_dec at h
  replace h := asI_inv h; obtain ⟨r0, rfl, h⟩ := h
  cases h
  rfl
theorem value_Order_eq (k : Nat) (a0 : S41) (b1 : S41) : bodyK UX (value_Order_cfg k) (value_Order_G k) Try.f16 [.pv (.typ (.s41 a0)), .pv (.typ (.s41 b1))] [] value_Order_dec = value_Order k a0 b1 := by kernel_rfl
theorem value_Order_con (k : Nat) (a0 : S41) (b1 : S41) (r : Int) (h : value_Order k a0 b1 = some r) : Con (X := UX) Try.prog 16 [.pv (.typ (.s41 a0)), .pv (.typ (.s41 b1))] [] (value_Order_enc r) [] :=
  con_of_body xok tok Try.func16 value_Order_body (value_Order_gok k) rfl (value_Order_cok k) (of_decide_eq_true (by kernel_rfl)) value_Order_dec_enc ((value_Order_eq k a0 b1).trans h)
noncomputable def value_Order_an {ρ : Type} (k : Nat) : An UX ρ := fun args bx K =>
popA args fun v1 a2 =>
as_s41 v1 fun a0 =>
popA a2 fun v3 a4 =>
as_s41 v3 fun b1 =>
popN a4 <|
popN bx <|
(value_Order k a0 b1).bind fun r => K (value_Order_enc r) []
theorem value_Order_ok {ρ : Type} (k : Nat) : AnsOK Try.prog 16 (value_Order_an (ρ := ρ) k) := by
  intro args bx K r h
  unfold value_Order_an at h
  replace h := popA_inv h; obtain ⟨v1, a2, rfl, h⟩ := h
  replace h := as_s41_inv h; obtain ⟨a0, rfl, h⟩ := h
  replace h := popA_inv h; obtain ⟨v3, a4, rfl, h⟩ := h
  replace h := as_s41_inv h; obtain ⟨b1, rfl, h⟩ := h
  replace h := popN_inv h; obtain ⟨rfl, h⟩ := h
  replace h := popN_inv h; obtain ⟨rfl, h⟩ := h
  replace h := bind_inv h
  obtain ⟨x, hx, h⟩ := h
  exact ⟨there_of Try.func16 (by kernel_rfl) value_Order_body, _, _, h, value_Order_con k a0 b1 x hx⟩
end Go.Proofs.Ytcongmnnacmbmaa.K
