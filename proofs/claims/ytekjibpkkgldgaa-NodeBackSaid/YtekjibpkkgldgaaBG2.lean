/-
  What the program's functions answer: the printed functions' answers.
-/
import Derived.Test.YtekjibpkkgldgaaBG1
namespace Go.Proofs.Ytekjibpkkgldgaa.B
open Go Go.AX
/-! cadastre/cadastreref0.EqBytes -/
noncomputable def cadastreref0_EqBytes_code : Code := match Try.f24.body with | some c => c | none => .skip
theorem cadastreref0_EqBytes_body : Try.f24.body = some cadastreref0_EqBytes_code := by kernel_rfl
noncomputable def cadastreref0_EqBytes_G {ρ : Type} (k : Nat) : Ans UX ρ := gnil
theorem cadastreref0_EqBytes_gok {ρ : Type} (k : Nat) : GOK Try.prog (cadastreref0_EqBytes_G (ρ := ρ) k) := gok_nil
noncomputable def cadastreref0_EqBytes_l4_s {ρ : Type} (k : Nat) : Run UX ρ := fun s K =>
popS 0 s.env fun v1 e2 =>
as_li_u8 v1 fun a0 =>
popS 1 e2 fun v3 e4 =>
as_li_u8 v3 fun b1 =>
popS 5 e4 fun v5 e6 =>
asI .i64 v5 fun i5 =>
popN e6 <|
popN s.hp <|
cadastreref0_EqBytes_l4 k (fun t4 => K .ret ⟨[(4, .pv (.bool t4))], []⟩) (K (.exit 0) ⟨[], []⟩) k a0 b1 i5
noncomputable def cadastreref0_EqBytes_cfg {ρ : Type} (k : Nat) : Cfg UX ρ where
  live i := (assoc [(0, [0, 1]), (1, [0, 1]), (2, []), (3, [0, 1]), (4, [0, 1, 5]), (5, [0, 1, 5]), (6, [0, 1, 5]), (7, []), (8, [])] i).getD []
  boxes i := (assoc [(0, []), (1, []), (2, []), (3, []), (4, []), (5, []), (6, []), (7, []), (8, [])] i).getD []
  tk i := (assoc [] i).getD []
  n := 26
  labelR l := (assoc [] l).getD 0
  loops := assoc [(4, cadastreref0_EqBytes_l4_s k)]
  labels := assoc []
  joins := assoc []
  xl i e := match e with
    | .nxt => assoc [] i
    | .ret => assoc [(4, ([4], []))] i
    | .exit j => (assoc [(4, [(0, ([], []))])] i).bind fun l => assoc l j
    | .goto j => (assoc [] i).bind fun l => assoc l j
noncomputable def cadastreref0_EqBytes_L : List Code := selI [4] (loopsOf cadastreref0_EqBytes_code)
noncomputable def cadastreref0_EqBytes_J : List Code := selI [] (joinsOf cadastreref0_EqBytes_code)
noncomputable def cadastreref0_EqBytes_S : List Code := scopesOf cadastreref0_EqBytes_code
theorem cadastreref0_EqBytes_l4_eq0 {ρ : Type} (k : Nat) (K : Ex → St UU → Option ρ) : ∀ (n : Nat) (v : (List Int) × (List Int) × Int), iterK UX (fun s => s.at (cadastreref0_EqBytes_cfg (ρ := ρ) k).live (cadastreref0_EqBytes_cfg (ρ := ρ) k).boxes (some 4)) (exec UX (cadastreref0_EqBytes_cfg k) (cadastreref0_EqBytes_G k) (cadastreref0_EqBytes_L.getD 0 .skip)) n ⟨[(0, .pv (.typ (.li_u8 v.1))), (1, .pv (.typ (.li_u8 v.2.1))), (5, .pv (.int .i64 v.2.2))], []⟩ (nrmK UX (cadastreref0_EqBytes_cfg k) 4 K) = cadastreref0_EqBytes_l4 k (fun t4 => K .ret ⟨[(4, .pv (.bool t4))], []⟩) (K (.exit 0) ⟨[], []⟩) n v.1 v.2.1 v.2.2 :=
  iter_rec (X := UX) (fun v => ⟨[(0, .pv (.typ (.li_u8 v.1))), (1, .pv (.typ (.li_u8 v.2.1))), (5, .pv (.int .i64 v.2.2))], []⟩) (fun rec v => cadastreref0_EqBytes_l4_b k (fun t4 => K .ret ⟨[(4, .pv (.bool t4))], []⟩) (K (.exit 0) ⟨[], []⟩) (fun a0 b1 i5 => rec (a0, b1, i5)) v.1 v.2.1 v.2.2) (fun n v => cadastreref0_EqBytes_l4 k (fun t4 => K .ret ⟨[(4, .pv (.bool t4))], []⟩) (K (.exit 0) ⟨[], []⟩) n v.1 v.2.1 v.2.2) (fun n v => by kernel_rfl) (fun _ => rfl) (fun _ _ => rfl)
theorem cadastreref0_EqBytes_l4_ok0 {ρ : Type} (k : Nat) : IterOK UX (cadastreref0_EqBytes_cfg (ρ := ρ) k) (cadastreref0_EqBytes_G k) (cadastreref0_EqBytes_L.getD 0 .skip) 4 (cadastreref0_EqBytes_l4_s k) := by
  intro s K r h
  obtain ⟨env, hp⟩ := s
  unfold cadastreref0_EqBytes_l4_s at h
  replace h := popS_inv h; obtain ⟨v1, e2, rfl, h⟩ := h
  replace h := as_li_u8_inv h; obtain ⟨a0, rfl, h⟩ := h
  replace h := popS_inv h; obtain ⟨v3, e4, rfl, h⟩ := h
  replace h := as_li_u8_inv h; obtain ⟨b1, rfl, h⟩ := h
  replace h := popS_inv h; obtain ⟨v5, e6, rfl, h⟩ := h
  replace h := asI_inv h; obtain ⟨i5, rfl, h⟩ := h
  replace h := popN_inv h; obtain ⟨rfl, h⟩ := h
  replace h := popN_inv h; obtain ⟨rfl, h⟩ := h
  exact ⟨k, (cadastreref0_EqBytes_l4_eq0 k K k (a0, b1, i5)).trans h⟩
theorem cadastreref0_EqBytes_cok {ρ : Type} (k : Nat) : COK (cadastreref0_EqBytes_cfg (ρ := ρ) k) (cadastreref0_EqBytes_G k) cadastreref0_EqBytes_code :=
  cok_of (tl := [(4, cadastreref0_EqBytes_l4_s k)]) (tj := []) (tb := []) rfl rfl rfl (all_nth 1 (by kernel_rfl) ⟨iter_case (by kernel_rfl) rfl (cadastreref0_EqBytes_l4_ok0 k), trivial⟩) (nil_all (by kernel_rfl)) (fun p hp => by cases hp)
noncomputable def cadastreref0_EqBytes_enc (r : Bool) : AV UU := .pv (.bool r)
noncomputable def cadastreref0_EqBytes_dec (v : AV UU) (_ : List (List (AV UU))) : Option Bool :=
asB v fun r0 =>
some r0
theorem cadastreref0_EqBytes_dec_enc (v : AV UU) (b : List (List (AV UU))) (r : Bool) (h : cadastreref0_EqBytes_dec v b = some r) : v = cadastreref0_EqBytes_enc r := by
  unfold cadastreref0_EqBytes_dec at h
  replace h := asB_inv h; obtain ⟨r0, rfl, h⟩ := h
  cases h
  rfl
theorem cadastreref0_EqBytes_eq (k : Nat) (a0 : List Int) (b1 : List Int) : bodyK UX (cadastreref0_EqBytes_cfg k) (cadastreref0_EqBytes_G k) Try.f24 [.pv (.typ (.li_u8 a0)), .pv (.typ (.li_u8 b1))] [] cadastreref0_EqBytes_dec = cadastreref0_EqBytes k a0 b1 := by kernel_rfl
theorem cadastreref0_EqBytes_con (k : Nat) (a0 : List Int) (b1 : List Int) (r : Bool) (h : cadastreref0_EqBytes k a0 b1 = some r) : Con (X := UX) Try.prog 24 [.pv (.typ (.li_u8 a0)), .pv (.typ (.li_u8 b1))] [] (cadastreref0_EqBytes_enc r) [] :=
  con_of_body xok tok Try.func24 cadastreref0_EqBytes_body (cadastreref0_EqBytes_gok k) rfl (cadastreref0_EqBytes_cok k) (of_decide_eq_true (by kernel_rfl)) cadastreref0_EqBytes_dec_enc ((cadastreref0_EqBytes_eq k a0 b1).trans h)
noncomputable def cadastreref0_EqBytes_an {ρ : Type} (k : Nat) : An UX ρ := fun args bx K =>
popA args fun v1 a2 =>
as_li_u8 v1 fun a0 =>
popA a2 fun v3 a4 =>
as_li_u8 v3 fun b1 =>
popN a4 <|
popN bx <|
(cadastreref0_EqBytes k a0 b1).bind fun r => K (cadastreref0_EqBytes_enc r) []
theorem cadastreref0_EqBytes_ok {ρ : Type} (k : Nat) : AnsOK Try.prog 24 (cadastreref0_EqBytes_an (ρ := ρ) k) := by
  intro args bx K r h
  unfold cadastreref0_EqBytes_an at h
  replace h := popA_inv h; obtain ⟨v1, a2, rfl, h⟩ := h
  replace h := as_li_u8_inv h; obtain ⟨a0, rfl, h⟩ := h
  replace h := popA_inv h; obtain ⟨v3, a4, rfl, h⟩ := h
  replace h := as_li_u8_inv h; obtain ⟨b1, rfl, h⟩ := h
  replace h := popN_inv h; obtain ⟨rfl, h⟩ := h
  replace h := popN_inv h; obtain ⟨rfl, h⟩ := h
  replace h := bind_inv h
  obtain ⟨x, hx, h⟩ := h
  exact ⟨there_of Try.func24 (by kernel_rfl) cadastreref0_EqBytes_body, _, _, h, cadastreref0_EqBytes_con k a0 b1 x hx⟩

/-! cadastre/cadastreref0.EqCells -/
noncomputable def cadastreref0_EqCells_code : Code := match Try.f31.body with | some c => c | none => .skip
theorem cadastreref0_EqCells_body : Try.f31.body = some cadastreref0_EqCells_code := by kernel_rfl
noncomputable def cadastreref0_EqCells_G {ρ : Type} (k : Nat) : Ans UX ρ := gk 24 (cadastreref0_EqBytes_an k) (gnil)
theorem cadastreref0_EqCells_gok {ρ : Type} (k : Nat) : GOK Try.prog (cadastreref0_EqCells_G (ρ := ρ) k) := gok_cons (cadastreref0_EqBytes_ok k) (gok_nil)
noncomputable def cadastreref0_EqCells_l4_s {ρ : Type} (k : Nat) : Run UX ρ := fun s K =>
popS 0 s.env fun v1 e2 =>
as_lli_u8 v1 fun a0 =>
popS 1 e2 fun v3 e4 =>
as_lli_u8 v3 fun b1 =>
popS 5 e4 fun v5 e6 =>
asI .i64 v5 fun i5 =>
popN e6 <|
popN s.hp <|
cadastreref0_EqCells_l4 k (fun t4 => K .ret ⟨[(4, .pv (.bool t4))], []⟩) (K (.exit 0) ⟨[], []⟩) k a0 b1 i5
noncomputable def cadastreref0_EqCells_cfg {ρ : Type} (k : Nat) : Cfg UX ρ where
  live i := (assoc [(0, [0, 1]), (1, [0, 1]), (2, []), (3, [0, 1]), (4, [0, 1, 5]), (5, [0, 1, 5]), (6, [0, 1, 5]), (7, []), (8, [])] i).getD []
  boxes i := (assoc [(0, []), (1, []), (2, []), (3, []), (4, []), (5, []), (6, []), (7, []), (8, [])] i).getD []
  tk i := (assoc [] i).getD []
  n := 27
  labelR l := (assoc [] l).getD 0
  loops := assoc [(4, cadastreref0_EqCells_l4_s k)]
  labels := assoc []
  joins := assoc []
  xl i e := match e with
    | .nxt => assoc [] i
    | .ret => assoc [(4, ([4], []))] i
    | .exit j => (assoc [(4, [(0, ([], []))])] i).bind fun l => assoc l j
    | .goto j => (assoc [] i).bind fun l => assoc l j
noncomputable def cadastreref0_EqCells_L : List Code := selI [4] (loopsOf cadastreref0_EqCells_code)
noncomputable def cadastreref0_EqCells_J : List Code := selI [] (joinsOf cadastreref0_EqCells_code)
noncomputable def cadastreref0_EqCells_S : List Code := scopesOf cadastreref0_EqCells_code
theorem cadastreref0_EqCells_l4_eq0 {ρ : Type} (k : Nat) (K : Ex → St UU → Option ρ) : ∀ (n : Nat) (v : (List (List Int)) × (List (List Int)) × Int), iterK UX (fun s => s.at (cadastreref0_EqCells_cfg (ρ := ρ) k).live (cadastreref0_EqCells_cfg (ρ := ρ) k).boxes (some 4)) (exec UX (cadastreref0_EqCells_cfg k) (cadastreref0_EqCells_G k) (cadastreref0_EqCells_L.getD 0 .skip)) n ⟨[(0, .pv (.typ (.lli_u8 v.1))), (1, .pv (.typ (.lli_u8 v.2.1))), (5, .pv (.int .i64 v.2.2))], []⟩ (nrmK UX (cadastreref0_EqCells_cfg k) 4 K) = cadastreref0_EqCells_l4 k (fun t4 => K .ret ⟨[(4, .pv (.bool t4))], []⟩) (K (.exit 0) ⟨[], []⟩) n v.1 v.2.1 v.2.2 :=
  iter_rec (X := UX) (fun v => ⟨[(0, .pv (.typ (.lli_u8 v.1))), (1, .pv (.typ (.lli_u8 v.2.1))), (5, .pv (.int .i64 v.2.2))], []⟩) (fun rec v => cadastreref0_EqCells_l4_b k (fun t4 => K .ret ⟨[(4, .pv (.bool t4))], []⟩) (K (.exit 0) ⟨[], []⟩) (fun a0 b1 i5 => rec (a0, b1, i5)) v.1 v.2.1 v.2.2) (fun n v => cadastreref0_EqCells_l4 k (fun t4 => K .ret ⟨[(4, .pv (.bool t4))], []⟩) (K (.exit 0) ⟨[], []⟩) n v.1 v.2.1 v.2.2) (fun n v => by kernel_rfl) (fun _ => rfl) (fun _ _ => rfl)
theorem cadastreref0_EqCells_l4_ok0 {ρ : Type} (k : Nat) : IterOK UX (cadastreref0_EqCells_cfg (ρ := ρ) k) (cadastreref0_EqCells_G k) (cadastreref0_EqCells_L.getD 0 .skip) 4 (cadastreref0_EqCells_l4_s k) := by
  intro s K r h
  obtain ⟨env, hp⟩ := s
  unfold cadastreref0_EqCells_l4_s at h
  replace h := popS_inv h; obtain ⟨v1, e2, rfl, h⟩ := h
  replace h := as_lli_u8_inv h; obtain ⟨a0, rfl, h⟩ := h
  replace h := popS_inv h; obtain ⟨v3, e4, rfl, h⟩ := h
  replace h := as_lli_u8_inv h; obtain ⟨b1, rfl, h⟩ := h
  replace h := popS_inv h; obtain ⟨v5, e6, rfl, h⟩ := h
  replace h := asI_inv h; obtain ⟨i5, rfl, h⟩ := h
  replace h := popN_inv h; obtain ⟨rfl, h⟩ := h
  replace h := popN_inv h; obtain ⟨rfl, h⟩ := h
  exact ⟨k, (cadastreref0_EqCells_l4_eq0 k K k (a0, b1, i5)).trans h⟩
theorem cadastreref0_EqCells_cok {ρ : Type} (k : Nat) : COK (cadastreref0_EqCells_cfg (ρ := ρ) k) (cadastreref0_EqCells_G k) cadastreref0_EqCells_code :=
  cok_of (tl := [(4, cadastreref0_EqCells_l4_s k)]) (tj := []) (tb := []) rfl rfl rfl (all_nth 1 (by kernel_rfl) ⟨iter_case (by kernel_rfl) rfl (cadastreref0_EqCells_l4_ok0 k), trivial⟩) (nil_all (by kernel_rfl)) (fun p hp => by cases hp)
noncomputable def cadastreref0_EqCells_enc (r : Bool) : AV UU := .pv (.bool r)
noncomputable def cadastreref0_EqCells_dec (v : AV UU) (_ : List (List (AV UU))) : Option Bool :=
asB v fun r0 =>
some r0
theorem cadastreref0_EqCells_dec_enc (v : AV UU) (b : List (List (AV UU))) (r : Bool) (h : cadastreref0_EqCells_dec v b = some r) : v = cadastreref0_EqCells_enc r := by
  unfold cadastreref0_EqCells_dec at h
  replace h := asB_inv h; obtain ⟨r0, rfl, h⟩ := h
  cases h
  rfl
theorem cadastreref0_EqCells_eq (k : Nat) (a0 : List (List Int)) (b1 : List (List Int)) : bodyK UX (cadastreref0_EqCells_cfg k) (cadastreref0_EqCells_G k) Try.f31 [.pv (.typ (.lli_u8 a0)), .pv (.typ (.lli_u8 b1))] [] cadastreref0_EqCells_dec = cadastreref0_EqCells k a0 b1 := by kernel_rfl
theorem cadastreref0_EqCells_con (k : Nat) (a0 : List (List Int)) (b1 : List (List Int)) (r : Bool) (h : cadastreref0_EqCells k a0 b1 = some r) : Con (X := UX) Try.prog 31 [.pv (.typ (.lli_u8 a0)), .pv (.typ (.lli_u8 b1))] [] (cadastreref0_EqCells_enc r) [] :=
  con_of_body xok tok Try.func31 cadastreref0_EqCells_body (cadastreref0_EqCells_gok k) rfl (cadastreref0_EqCells_cok k) (of_decide_eq_true (by kernel_rfl)) cadastreref0_EqCells_dec_enc ((cadastreref0_EqCells_eq k a0 b1).trans h)
noncomputable def cadastreref0_EqCells_an {ρ : Type} (k : Nat) : An UX ρ := fun args bx K =>
popA args fun v1 a2 =>
as_lli_u8 v1 fun a0 =>
popA a2 fun v3 a4 =>
as_lli_u8 v3 fun b1 =>
popN a4 <|
popN bx <|
(cadastreref0_EqCells k a0 b1).bind fun r => K (cadastreref0_EqCells_enc r) []
theorem cadastreref0_EqCells_ok {ρ : Type} (k : Nat) : AnsOK Try.prog 31 (cadastreref0_EqCells_an (ρ := ρ) k) := by
  intro args bx K r h
  unfold cadastreref0_EqCells_an at h
  replace h := popA_inv h; obtain ⟨v1, a2, rfl, h⟩ := h
  replace h := as_lli_u8_inv h; obtain ⟨a0, rfl, h⟩ := h
  replace h := popA_inv h; obtain ⟨v3, a4, rfl, h⟩ := h
  replace h := as_lli_u8_inv h; obtain ⟨b1, rfl, h⟩ := h
  replace h := popN_inv h; obtain ⟨rfl, h⟩ := h
  replace h := popN_inv h; obtain ⟨rfl, h⟩ := h
  replace h := bind_inv h
  obtain ⟨x, hx, h⟩ := h
  exact ⟨there_of Try.func31 (by kernel_rfl) cadastreref0_EqCells_body, _, _, h, cadastreref0_EqCells_con k a0 b1 x hx⟩

/-! cadastre/cadastreref0.CopyBytes -/
noncomputable def cadastreref0_CopyBytes_code : Code := match Try.f33.body with | some c => c | none => .skip
theorem cadastreref0_CopyBytes_body : Try.f33.body = some cadastreref0_CopyBytes_code := by kernel_rfl
noncomputable def cadastreref0_CopyBytes_G {ρ : Type} (k : Nat) : Ans UX ρ := gnil
theorem cadastreref0_CopyBytes_gok {ρ : Type} (k : Nat) : GOK Try.prog (cadastreref0_CopyBytes_G (ρ := ρ) k) := gok_nil
noncomputable def cadastreref0_CopyBytes_l3_s {ρ : Type} (k : Nat) : Run UX ρ := fun s K =>
popS 0 s.env fun v1 e2 =>
as_li_u8 v1 fun l0 =>
popS 3 e2 fun v3 e4 =>
asO_li_u8 v3 fun m3 =>
popS 4 e4 fun v5 e6 =>
asI .i64 v5 fun i4 =>
popN e6 <|
popN s.hp <|
cadastreref0_CopyBytes_l3 k (fun m3 => K (.exit 0) ⟨[(3, .own (.li_u8 m3))], []⟩) k l0 m3 i4
noncomputable def cadastreref0_CopyBytes_cfg {ρ : Type} (k : Nat) : Cfg UX ρ where
  live i := (assoc [(0, [0]), (1, [0]), (2, [0, 3]), (3, [0, 3, 4]), (4, [0, 3, 4]), (5, [0, 3, 4]), (6, [3])] i).getD []
  boxes i := (assoc [(0, []), (1, []), (2, []), (3, []), (4, []), (5, []), (6, [])] i).getD []
  tk i := (assoc [(1000000, [2, 3])] i).getD []
  n := 19
  labelR l := (assoc [] l).getD 0
  loops := assoc [(3, cadastreref0_CopyBytes_l3_s k)]
  labels := assoc []
  joins := assoc []
  xl i e := match e with
    | .nxt => assoc [] i
    | .ret => assoc [] i
    | .exit j => (assoc [(3, [(0, ([3], []))])] i).bind fun l => assoc l j
    | .goto j => (assoc [] i).bind fun l => assoc l j
noncomputable def cadastreref0_CopyBytes_L : List Code := selI [3] (loopsOf cadastreref0_CopyBytes_code)
noncomputable def cadastreref0_CopyBytes_J : List Code := selI [] (joinsOf cadastreref0_CopyBytes_code)
noncomputable def cadastreref0_CopyBytes_S : List Code := scopesOf cadastreref0_CopyBytes_code
theorem cadastreref0_CopyBytes_l3_eq0 {ρ : Type} (k : Nat) (K : Ex → St UU → Option ρ) : ∀ (n : Nat) (v : (List Int) × (List Int) × Int), iterK UX (fun s => s.at (cadastreref0_CopyBytes_cfg (ρ := ρ) k).live (cadastreref0_CopyBytes_cfg (ρ := ρ) k).boxes (some 3)) (exec UX (cadastreref0_CopyBytes_cfg k) (cadastreref0_CopyBytes_G k) (cadastreref0_CopyBytes_L.getD 0 .skip)) n ⟨[(0, .pv (.typ (.li_u8 v.1))), (3, .own (.li_u8 v.2.1)), (4, .pv (.int .i64 v.2.2))], []⟩ (nrmK UX (cadastreref0_CopyBytes_cfg k) 3 K) = cadastreref0_CopyBytes_l3 k (fun m3 => K (.exit 0) ⟨[(3, .own (.li_u8 m3))], []⟩) n v.1 v.2.1 v.2.2 :=
  iter_rec (X := UX) (fun v => ⟨[(0, .pv (.typ (.li_u8 v.1))), (3, .own (.li_u8 v.2.1)), (4, .pv (.int .i64 v.2.2))], []⟩) (fun rec v => cadastreref0_CopyBytes_l3_b k (fun m3 => K (.exit 0) ⟨[(3, .own (.li_u8 m3))], []⟩) (fun l0 m3 i4 => rec (l0, m3, i4)) v.1 v.2.1 v.2.2) (fun n v => cadastreref0_CopyBytes_l3 k (fun m3 => K (.exit 0) ⟨[(3, .own (.li_u8 m3))], []⟩) n v.1 v.2.1 v.2.2) (fun n v => by kernel_rfl) (fun _ => rfl) (fun _ _ => rfl)
theorem cadastreref0_CopyBytes_l3_ok0 {ρ : Type} (k : Nat) : IterOK UX (cadastreref0_CopyBytes_cfg (ρ := ρ) k) (cadastreref0_CopyBytes_G k) (cadastreref0_CopyBytes_L.getD 0 .skip) 3 (cadastreref0_CopyBytes_l3_s k) := by
  intro s K r h
  obtain ⟨env, hp⟩ := s
  unfold cadastreref0_CopyBytes_l3_s at h
  replace h := popS_inv h; obtain ⟨v1, e2, rfl, h⟩ := h
  replace h := as_li_u8_inv h; obtain ⟨l0, rfl, h⟩ := h
  replace h := popS_inv h; obtain ⟨v3, e4, rfl, h⟩ := h
  replace h := asO_li_u8_inv h; obtain ⟨m3, rfl, h⟩ := h
  replace h := popS_inv h; obtain ⟨v5, e6, rfl, h⟩ := h
  replace h := asI_inv h; obtain ⟨i4, rfl, h⟩ := h
  replace h := popN_inv h; obtain ⟨rfl, h⟩ := h
  replace h := popN_inv h; obtain ⟨rfl, h⟩ := h
  exact ⟨k, (cadastreref0_CopyBytes_l3_eq0 k K k (l0, m3, i4)).trans h⟩
theorem cadastreref0_CopyBytes_cok {ρ : Type} (k : Nat) : COK (cadastreref0_CopyBytes_cfg (ρ := ρ) k) (cadastreref0_CopyBytes_G k) cadastreref0_CopyBytes_code :=
  cok_of (tl := [(3, cadastreref0_CopyBytes_l3_s k)]) (tj := []) (tb := []) rfl rfl rfl (all_nth 1 (by kernel_rfl) ⟨iter_case (by kernel_rfl) rfl (cadastreref0_CopyBytes_l3_ok0 k), trivial⟩) (nil_all (by kernel_rfl)) (fun p hp => by cases hp)
noncomputable def cadastreref0_CopyBytes_enc (r : (List Int)) : AV UU := .own (.li_u8 r)
noncomputable def cadastreref0_CopyBytes_dec (v : AV UU) (_ : List (List (AV UU))) : Option (List Int) :=
asO_li_u8 v fun r =>
some r
theorem cadastreref0_CopyBytes_dec_enc (v : AV UU) (b : List (List (AV UU))) (r : (List Int)) (h : cadastreref0_CopyBytes_dec v b = some r) : v = cadastreref0_CopyBytes_enc r := by
  unfold cadastreref0_CopyBytes_dec at h
  replace h := asO_li_u8_inv h; obtain ⟨r, rfl, h⟩ := h
  cases h
  rfl
theorem cadastreref0_CopyBytes_eq (k : Nat) (l0 : List Int) : bodyK UX (cadastreref0_CopyBytes_cfg k) (cadastreref0_CopyBytes_G k) Try.f33 [.pv (.typ (.li_u8 l0))] [] cadastreref0_CopyBytes_dec = cadastreref0_CopyBytes k l0 := by kernel_rfl
theorem cadastreref0_CopyBytes_con (k : Nat) (l0 : List Int) (r : (List Int)) (h : cadastreref0_CopyBytes k l0 = some r) : Con (X := UX) Try.prog 33 [.pv (.typ (.li_u8 l0))] [] (cadastreref0_CopyBytes_enc r) [] :=
  con_of_body xok tok Try.func33 cadastreref0_CopyBytes_body (cadastreref0_CopyBytes_gok k) rfl (cadastreref0_CopyBytes_cok k) (of_decide_eq_true (by kernel_rfl)) cadastreref0_CopyBytes_dec_enc ((cadastreref0_CopyBytes_eq k l0).trans h)
noncomputable def cadastreref0_CopyBytes_an {ρ : Type} (k : Nat) : An UX ρ := fun args bx K =>
popA args fun v1 a2 =>
as_li_u8 v1 fun l0 =>
popN a2 <|
popN bx <|
(cadastreref0_CopyBytes k l0).bind fun r => K (cadastreref0_CopyBytes_enc r) []
theorem cadastreref0_CopyBytes_ok {ρ : Type} (k : Nat) : AnsOK Try.prog 33 (cadastreref0_CopyBytes_an (ρ := ρ) k) := by
  intro args bx K r h
  unfold cadastreref0_CopyBytes_an at h
  replace h := popA_inv h; obtain ⟨v1, a2, rfl, h⟩ := h
  replace h := as_li_u8_inv h; obtain ⟨l0, rfl, h⟩ := h
  replace h := popN_inv h; obtain ⟨rfl, h⟩ := h
  replace h := popN_inv h; obtain ⟨rfl, h⟩ := h
  replace h := bind_inv h
  obtain ⟨x, hx, h⟩ := h
  exact ⟨there_of Try.func33 (by kernel_rfl) cadastreref0_CopyBytes_body, _, _, h, cadastreref0_CopyBytes_con k l0 x hx⟩

/-! cadastre/cadastreref0.CopyCells -/
noncomputable def cadastreref0_CopyCells_code : Code := match Try.f28.body with | some c => c | none => .skip
theorem cadastreref0_CopyCells_body : Try.f28.body = some cadastreref0_CopyCells_code := by kernel_rfl
noncomputable def cadastreref0_CopyCells_G {ρ : Type} (k : Nat) : Ans UX ρ := gk 33 (cadastreref0_CopyBytes_an k) (gnil)
theorem cadastreref0_CopyCells_gok {ρ : Type} (k : Nat) : GOK Try.prog (cadastreref0_CopyCells_G (ρ := ρ) k) := gok_cons (cadastreref0_CopyBytes_ok k) (gok_nil)
noncomputable def cadastreref0_CopyCells_l3_s {ρ : Type} (k : Nat) : Run UX ρ := fun s K =>
popS 0 s.env fun v1 e2 =>
as_lli_u8 v1 fun a0 =>
popS 3 e2 fun v3 e4 =>
asO_lli_u8 v3 fun l3 =>
popS 4 e4 fun v5 e6 =>
asI .i64 v5 fun i4 =>
popN e6 <|
popN s.hp <|
cadastreref0_CopyCells_l3 k (fun l3 => K (.exit 0) ⟨[(3, .own (.lli_u8 l3))], []⟩) k a0 l3 i4
noncomputable def cadastreref0_CopyCells_cfg {ρ : Type} (k : Nat) : Cfg UX ρ where
  live i := (assoc [(0, [0]), (1, [0]), (2, [0, 3]), (3, [0, 3, 4]), (4, [0, 3, 4]), (5, [0, 3, 4]), (6, [3])] i).getD []
  boxes i := (assoc [(0, []), (1, []), (2, []), (3, []), (4, []), (5, []), (6, [])] i).getD []
  tk i := (assoc [(1000000, [2, 3])] i).getD []
  n := 20
  labelR l := (assoc [] l).getD 0
  loops := assoc [(3, cadastreref0_CopyCells_l3_s k)]
  labels := assoc []
  joins := assoc []
  xl i e := match e with
    | .nxt => assoc [] i
    | .ret => assoc [] i
    | .exit j => (assoc [(3, [(0, ([3], []))])] i).bind fun l => assoc l j
    | .goto j => (assoc [] i).bind fun l => assoc l j
noncomputable def cadastreref0_CopyCells_L : List Code := selI [3] (loopsOf cadastreref0_CopyCells_code)
noncomputable def cadastreref0_CopyCells_J : List Code := selI [] (joinsOf cadastreref0_CopyCells_code)
noncomputable def cadastreref0_CopyCells_S : List Code := scopesOf cadastreref0_CopyCells_code
theorem cadastreref0_CopyCells_l3_eq0 {ρ : Type} (k : Nat) (K : Ex → St UU → Option ρ) : ∀ (n : Nat) (v : (List (List Int)) × (List (List Int)) × Int), iterK UX (fun s => s.at (cadastreref0_CopyCells_cfg (ρ := ρ) k).live (cadastreref0_CopyCells_cfg (ρ := ρ) k).boxes (some 3)) (exec UX (cadastreref0_CopyCells_cfg k) (cadastreref0_CopyCells_G k) (cadastreref0_CopyCells_L.getD 0 .skip)) n ⟨[(0, .pv (.typ (.lli_u8 v.1))), (3, .own (.lli_u8 v.2.1)), (4, .pv (.int .i64 v.2.2))], []⟩ (nrmK UX (cadastreref0_CopyCells_cfg k) 3 K) = cadastreref0_CopyCells_l3 k (fun l3 => K (.exit 0) ⟨[(3, .own (.lli_u8 l3))], []⟩) n v.1 v.2.1 v.2.2 :=
  iter_rec (X := UX) (fun v => ⟨[(0, .pv (.typ (.lli_u8 v.1))), (3, .own (.lli_u8 v.2.1)), (4, .pv (.int .i64 v.2.2))], []⟩) (fun rec v => cadastreref0_CopyCells_l3_b k (fun l3 => K (.exit 0) ⟨[(3, .own (.lli_u8 l3))], []⟩) (fun a0 l3 i4 => rec (a0, l3, i4)) v.1 v.2.1 v.2.2) (fun n v => cadastreref0_CopyCells_l3 k (fun l3 => K (.exit 0) ⟨[(3, .own (.lli_u8 l3))], []⟩) n v.1 v.2.1 v.2.2) (fun n v => by kernel_rfl) (fun _ => rfl) (fun _ _ => rfl)
theorem cadastreref0_CopyCells_l3_ok0 {ρ : Type} (k : Nat) : IterOK UX (cadastreref0_CopyCells_cfg (ρ := ρ) k) (cadastreref0_CopyCells_G k) (cadastreref0_CopyCells_L.getD 0 .skip) 3 (cadastreref0_CopyCells_l3_s k) := by
  intro s K r h
  obtain ⟨env, hp⟩ := s
  unfold cadastreref0_CopyCells_l3_s at h
  replace h := popS_inv h; obtain ⟨v1, e2, rfl, h⟩ := h
  replace h := as_lli_u8_inv h; obtain ⟨a0, rfl, h⟩ := h
  replace h := popS_inv h; obtain ⟨v3, e4, rfl, h⟩ := h
  replace h := asO_lli_u8_inv h; obtain ⟨l3, rfl, h⟩ := h
  replace h := popS_inv h; obtain ⟨v5, e6, rfl, h⟩ := h
  replace h := asI_inv h; obtain ⟨i4, rfl, h⟩ := h
  replace h := popN_inv h; obtain ⟨rfl, h⟩ := h
  replace h := popN_inv h; obtain ⟨rfl, h⟩ := h
  exact ⟨k, (cadastreref0_CopyCells_l3_eq0 k K k (a0, l3, i4)).trans h⟩
theorem cadastreref0_CopyCells_cok {ρ : Type} (k : Nat) : COK (cadastreref0_CopyCells_cfg (ρ := ρ) k) (cadastreref0_CopyCells_G k) cadastreref0_CopyCells_code :=
  cok_of (tl := [(3, cadastreref0_CopyCells_l3_s k)]) (tj := []) (tb := []) rfl rfl rfl (all_nth 1 (by kernel_rfl) ⟨iter_case (by kernel_rfl) rfl (cadastreref0_CopyCells_l3_ok0 k), trivial⟩) (nil_all (by kernel_rfl)) (fun p hp => by cases hp)
noncomputable def cadastreref0_CopyCells_enc (r : (List (List Int))) : AV UU := .own (.lli_u8 r)
noncomputable def cadastreref0_CopyCells_dec (v : AV UU) (_ : List (List (AV UU))) : Option (List (List Int)) :=
asO_lli_u8 v fun r =>
some r
theorem cadastreref0_CopyCells_dec_enc (v : AV UU) (b : List (List (AV UU))) (r : (List (List Int))) (h : cadastreref0_CopyCells_dec v b = some r) : v = cadastreref0_CopyCells_enc r := by
  unfold cadastreref0_CopyCells_dec at h
  replace h := asO_lli_u8_inv h; obtain ⟨r, rfl, h⟩ := h
  cases h
  rfl
theorem cadastreref0_CopyCells_eq (k : Nat) (a0 : List (List Int)) : bodyK UX (cadastreref0_CopyCells_cfg k) (cadastreref0_CopyCells_G k) Try.f28 [.pv (.typ (.lli_u8 a0))] [] cadastreref0_CopyCells_dec = cadastreref0_CopyCells k a0 := by kernel_rfl
theorem cadastreref0_CopyCells_con (k : Nat) (a0 : List (List Int)) (r : (List (List Int))) (h : cadastreref0_CopyCells k a0 = some r) : Con (X := UX) Try.prog 28 [.pv (.typ (.lli_u8 a0))] [] (cadastreref0_CopyCells_enc r) [] :=
  con_of_body xok tok Try.func28 cadastreref0_CopyCells_body (cadastreref0_CopyCells_gok k) rfl (cadastreref0_CopyCells_cok k) (of_decide_eq_true (by kernel_rfl)) cadastreref0_CopyCells_dec_enc ((cadastreref0_CopyCells_eq k a0).trans h)
noncomputable def cadastreref0_CopyCells_an {ρ : Type} (k : Nat) : An UX ρ := fun args bx K =>
popA args fun v1 a2 =>
as_lli_u8 v1 fun a0 =>
popN a2 <|
popN bx <|
(cadastreref0_CopyCells k a0).bind fun r => K (cadastreref0_CopyCells_enc r) []
theorem cadastreref0_CopyCells_ok {ρ : Type} (k : Nat) : AnsOK Try.prog 28 (cadastreref0_CopyCells_an (ρ := ρ) k) := by
  intro args bx K r h
  unfold cadastreref0_CopyCells_an at h
  replace h := popA_inv h; obtain ⟨v1, a2, rfl, h⟩ := h
  replace h := as_lli_u8_inv h; obtain ⟨a0, rfl, h⟩ := h
  replace h := popN_inv h; obtain ⟨rfl, h⟩ := h
  replace h := popN_inv h; obtain ⟨rfl, h⟩ := h
  replace h := bind_inv h
  obtain ⟨x, hx, h⟩ := h
  exact ⟨there_of Try.func28 (by kernel_rfl) cadastreref0_CopyCells_body, _, _, h, cadastreref0_CopyCells_con k a0 x hx⟩

/-! cadastre/cadastrelaw11.wakes -/
noncomputable def cadastrelaw11_wakes_code : Code := match Try.f19.body with | some c => c | none => .skip
theorem cadastrelaw11_wakes_body : Try.f19.body = some cadastrelaw11_wakes_code := by kernel_rfl
noncomputable def cadastrelaw11_wakes_G {ρ : Type} (k : Nat) : Ans UX ρ := gk 29 (node_Encode_an k) (gk 30 (cadastrelaw11_num_an k) (gk 17 (node_Room_an k) (gnil)))
theorem cadastrelaw11_wakes_gok {ρ : Type} (k : Nat) : GOK Try.prog (cadastrelaw11_wakes_G (ρ := ρ) k) := gok_cons (node_Encode_ok k) (gok_cons (cadastrelaw11_num_ok k) (gok_cons (node_Room_ok k) (gok_nil)))
noncomputable def cadastrelaw11_wakes_cfg {ρ : Type} (k : Nat) : Cfg UX ρ where
  live i := (assoc [(0, []), (1, []), (2, [1, 2])] i).getD []
  boxes i := (assoc [(0, []), (1, []), (2, [])] i).getD []
  tk i := (assoc [] i).getD []
  n := 25
  labelR l := (assoc [] l).getD 0
  loops := assoc []
  labels := assoc []
  joins := assoc []
  xl i e := match e with
    | .nxt => assoc [] i
    | .ret => assoc [] i
    | .exit j => (assoc [] i).bind fun l => assoc l j
    | .goto j => (assoc [] i).bind fun l => assoc l j
noncomputable def cadastrelaw11_wakes_L : List Code := selI [] (loopsOf cadastrelaw11_wakes_code)
noncomputable def cadastrelaw11_wakes_J : List Code := selI [] (joinsOf cadastrelaw11_wakes_code)
noncomputable def cadastrelaw11_wakes_S : List Code := scopesOf cadastrelaw11_wakes_code
theorem cadastrelaw11_wakes_cok {ρ : Type} (k : Nat) : COK (cadastrelaw11_wakes_cfg (ρ := ρ) k) (cadastrelaw11_wakes_G k) cadastrelaw11_wakes_code :=
  cok_of (tl := []) (tj := []) (tb := []) rfl rfl rfl (nil_all (by kernel_rfl)) (nil_all (by kernel_rfl)) (fun p hp => by cases hp)
noncomputable def cadastrelaw11_wakes_enc (r : Bool) : AV UU := .pv (.bool r)
noncomputable def cadastrelaw11_wakes_dec (v : AV UU) (_ : List (List (AV UU))) : Option Bool :=
asB v fun r0 =>
some r0
theorem cadastrelaw11_wakes_dec_enc (v : AV UU) (b : List (List (AV UU))) (r : Bool) (h : cadastrelaw11_wakes_dec v b = some r) : v = cadastrelaw11_wakes_enc r := by
  unfold cadastrelaw11_wakes_dec at h
  replace h := asB_inv h; obtain ⟨r0, rfl, h⟩ := h
  cases h
  rfl
theorem cadastrelaw11_wakes_eq (k : Nat) : bodyK UX (cadastrelaw11_wakes_cfg k) (cadastrelaw11_wakes_G k) Try.f19 [] [] cadastrelaw11_wakes_dec = cadastrelaw11_wakes k := by kernel_rfl
theorem cadastrelaw11_wakes_con (k : Nat) (r : Bool) (h : cadastrelaw11_wakes k = some r) : Con (X := UX) Try.prog 19 [] [] (cadastrelaw11_wakes_enc r) [] :=
  con_of_body xok tok Try.func19 cadastrelaw11_wakes_body (cadastrelaw11_wakes_gok k) rfl (cadastrelaw11_wakes_cok k) (of_decide_eq_true (by kernel_rfl)) cadastrelaw11_wakes_dec_enc ((cadastrelaw11_wakes_eq k).trans h)
noncomputable def cadastrelaw11_wakes_an {ρ : Type} (k : Nat) : An UX ρ := fun args bx K =>
popN args <|
popN bx <|
(cadastrelaw11_wakes k).bind fun r => K (cadastrelaw11_wakes_enc r) []
theorem cadastrelaw11_wakes_ok {ρ : Type} (k : Nat) : AnsOK Try.prog 19 (cadastrelaw11_wakes_an (ρ := ρ) k) := by
  intro args bx K r h
  unfold cadastrelaw11_wakes_an at h
  replace h := popN_inv h; obtain ⟨rfl, h⟩ := h
  replace h := popN_inv h; obtain ⟨rfl, h⟩ := h
  replace h := bind_inv h
  obtain ⟨x, hx, h⟩ := h
  exact ⟨there_of Try.func19 (by kernel_rfl) cadastrelaw11_wakes_body, _, _, h, cadastrelaw11_wakes_con k x hx⟩

/-! cadastre/cadastrelaw11.NodeBack -/
noncomputable def cadastrelaw11_NodeBack_code : Code := match Try.f7.body with | some c => c | none => .skip
theorem cadastrelaw11_NodeBack_body : Try.f7.body = some cadastrelaw11_NodeBack_code := by kernel_rfl
noncomputable def cadastrelaw11_NodeBack_G {ρ : Type} (k : Nat) : Ans UX ρ := gk 16 (cadastrelaw11_heavy_an k) (gk 36 (cadastrelaw0_Within_an k) (gk 29 (node_Encode_an k) (gk 17 (node_Room_an k) (gk 30 (cadastrelaw11_num_an k) (gk 34 (node_Decode_an k) (gk 31 (cadastreref0_EqCells_an k) (gk 28 (cadastreref0_CopyCells_an k) (gk 19 (cadastrelaw11_wakes_an k) (gnil)))))))))
theorem cadastrelaw11_NodeBack_gok {ρ : Type} (k : Nat) : GOK Try.prog (cadastrelaw11_NodeBack_G (ρ := ρ) k) := gok_cons (cadastrelaw11_heavy_ok k) (gok_cons (cadastrelaw0_Within_ok k) (gok_cons (node_Encode_ok k) (gok_cons (node_Room_ok k) (gok_cons (cadastrelaw11_num_ok k) (gok_cons (node_Decode_ok k) (gok_cons (cadastreref0_EqCells_ok k) (gok_cons (cadastreref0_CopyCells_ok k) (gok_cons (cadastrelaw11_wakes_ok k) (gok_nil)))))))))
noncomputable def cadastrelaw11_NodeBack_j17_s {ρ : Type} (k : Nat) : Run UX ρ := fun s K =>
popS 0 s.env fun v1 e2 =>
as_l26 v1 fun l0 =>
popS 3 e2 fun v3 e4 =>
asI .i64 v3 fun i3 =>
popS 4 e4 fun v5 e6 =>
asP 4 0 v5 <|
popS 5 e6 fun v7 e8 =>
asI .i64 v7 fun kind5 =>
popS 6 e8 fun v9 e10 =>
asI .i64 v9 fun next6 =>
popS 9 e10 fun v11 e12 =>
asI .i64 v11 fun room9 =>
popN e12 <|
popB 4 s.hp fun c13 e14 =>
popA c13 fun v15 c16 =>
asI .i64 v15 fun z17 =>
popA c16 fun v18 c19 =>
asI .i64 v18 fun z20 =>
popA c19 fun v21 c22 =>
as_lli_u8 v21 fun z23 =>
popA c22 fun v24 c25 =>
as_li_u8 v24 fun z26 =>
popN c25 <|
popN e14 <|
cadastrelaw11_NodeBack_j17 k (fun t2 => K .ret ⟨[(2, .pv (.bool t2))], []⟩) (fun l0 i3 => K .nxt ⟨[(0, .pv (.typ (.l26 l0))), (3, .pv (.int .i64 i3))], []⟩) l0 i3 kind5 next6 room9 (⟨z17, z20, z23, z26⟩ : S26)
noncomputable def cadastrelaw11_NodeBack_j13_s {ρ : Type} (k : Nat) : Run UX ρ := fun s K =>
popS 0 s.env fun v1 e2 =>
as_l26 v1 fun l0 =>
popS 3 e2 fun v3 e4 =>
asI .i64 v3 fun i3 =>
popS 4 e4 fun v5 e6 =>
asP 4 0 v5 <|
popS 5 e6 fun v7 e8 =>
asI .i64 v7 fun kind5 =>
popS 6 e8 fun v9 e10 =>
asI .i64 v9 fun next6 =>
popS 7 e10 fun v11 e12 =>
as_li_u8 v11 fun b7 =>
popS 8 e12 fun v13 e14 =>
asI .i64 v13 fun e8 =>
popS 9 e14 fun v15 e16 =>
asI .i64 v15 fun room9 =>
popN e16 <|
popB 4 s.hp fun c17 e18 =>
popA c17 fun v19 c20 =>
asI .i64 v19 fun z21 =>
popA c20 fun v22 c23 =>
asI .i64 v22 fun z24 =>
popA c23 fun v25 c26 =>
as_lli_u8 v25 fun z27 =>
popA c26 fun v28 c29 =>
as_li_u8 v28 fun z30 =>
popN c29 <|
popN e18 <|
cadastrelaw11_NodeBack_j13 k (fun l0 i3 => K (.exit 1) ⟨[(0, .pv (.typ (.l26 l0))), (3, .pv (.int .i64 i3))], []⟩) (fun t2 => K .ret ⟨[(2, .pv (.bool t2))], []⟩) (fun l0 i3 => K .nxt ⟨[(0, .pv (.typ (.l26 l0))), (3, .pv (.int .i64 i3))], []⟩) l0 i3 kind5 next6 b7 e8 room9 (⟨z21, z24, z27, z30⟩ : S26)
noncomputable def cadastrelaw11_NodeBack_j4_s {ρ : Type} (k : Nat) : Run UX ρ := fun s K =>
popS 0 s.env fun v1 e2 =>
as_l26 v1 fun l0 =>
popS 3 e2 fun v3 e4 =>
asI .i64 v3 fun i3 =>
popN e4 <|
popN s.hp <|
cadastrelaw11_NodeBack_j4 k (fun t2 => K .ret ⟨[(2, .pv (.bool t2))], []⟩) (fun l0 i3 => K .nxt ⟨[(0, .pv (.typ (.l26 l0))), (3, .pv (.int .i64 i3))], []⟩) l0 i3
noncomputable def cadastrelaw11_NodeBack_l2_s {ρ : Type} (k : Nat) : Run UX ρ := fun s K =>
popS 0 s.env fun v1 e2 =>
as_l26 v1 fun l0 =>
popS 3 e2 fun v3 e4 =>
asI .i64 v3 fun i3 =>
popN e4 <|
popN s.hp <|
cadastrelaw11_NodeBack_l2 k (fun t2 => K .ret ⟨[(2, .pv (.bool t2))], []⟩) (K (.exit 0) ⟨[], []⟩) k l0 i3
noncomputable def cadastrelaw11_NodeBack_cfg {ρ : Type} (k : Nat) : Cfg UX ρ where
  live i := (assoc [(0, [0]), (1, [0]), (2, [0, 3]), (3, [0, 3]), (4, [0, 3]), (5, [0, 3, 4]), (6, []), (7, [0, 3, 4]), (8, [0, 3, 4, 5]), (9, [0, 3, 4, 5, 6]), (10, [0, 3, 4, 5, 6, 7, 8]), (11, [0, 3, 4, 5, 6, 7, 8, 9]), (12, []), (13, [0, 3, 4, 5, 6, 7, 8, 9]), (14, [0, 3, 4, 5, 6, 7, 9]), (15, [0, 3, 4, 5, 6, 7, 9, 10, 11, 12, 13]), (16, []), (17, [0, 3, 4, 5, 6, 9]), (18, [0, 3, 5, 6, 14]), (19, [0, 3, 14, 16]), (20, []), (21, [])] i).getD []
  boxes i := (assoc [(0, []), (1, []), (2, []), (3, []), (4, []), (5, [4]), (6, []), (7, [4]), (8, [4]), (9, [4]), (10, [4]), (11, [4]), (12, []), (13, [4]), (14, [4]), (15, [4]), (16, []), (17, [4]), (18, []), (19, []), (20, []), (21, [])] i).getD []
  tk i := (assoc [] i).getD []
  n := 125
  labelR l := (assoc [] l).getD 0
  loops := assoc [(2, cadastrelaw11_NodeBack_l2_s k)]
  labels := assoc []
  joins := assoc [(17, cadastrelaw11_NodeBack_j17_s k), (13, cadastrelaw11_NodeBack_j13_s k), (4, cadastrelaw11_NodeBack_j4_s k)]
  xl i e := match e with
    | .nxt => assoc [(17, ([0, 3], [])), (13, ([0, 3], [])), (4, ([0, 3], []))] i
    | .ret => assoc [(17, ([2], [])), (13, ([2], [])), (4, ([2], [])), (2, ([2], []))] i
    | .exit j => (assoc [(13, [(1, ([0, 3], []))]), (2, [(0, ([], []))])] i).bind fun l => assoc l j
    | .goto j => (assoc [] i).bind fun l => assoc l j
noncomputable def cadastrelaw11_NodeBack_L : List Code := selI [2] (loopsOf cadastrelaw11_NodeBack_code)
noncomputable def cadastrelaw11_NodeBack_J : List Code := selI [17, 13, 4] (joinsOf cadastrelaw11_NodeBack_code)
noncomputable def cadastrelaw11_NodeBack_S : List Code := scopesOf cadastrelaw11_NodeBack_code
theorem cadastrelaw11_NodeBack_l2_eq0 {ρ : Type} (k : Nat) (K : Ex → St UU → Option ρ) : ∀ (n : Nat) (v : (List S26) × Int), iterK UX (fun s => s.at (cadastrelaw11_NodeBack_cfg (ρ := ρ) k).live (cadastrelaw11_NodeBack_cfg (ρ := ρ) k).boxes (some 2)) (exec UX (cadastrelaw11_NodeBack_cfg k) (cadastrelaw11_NodeBack_G k) (cadastrelaw11_NodeBack_L.getD 0 .skip)) n ⟨[(0, .pv (.typ (.l26 v.1))), (3, .pv (.int .i64 v.2))], []⟩ (nrmK UX (cadastrelaw11_NodeBack_cfg k) 2 K) = cadastrelaw11_NodeBack_l2 k (fun t2 => K .ret ⟨[(2, .pv (.bool t2))], []⟩) (K (.exit 0) ⟨[], []⟩) n v.1 v.2 :=
  iter_rec (X := UX) (fun v => ⟨[(0, .pv (.typ (.l26 v.1))), (3, .pv (.int .i64 v.2))], []⟩) (fun rec v => cadastrelaw11_NodeBack_l2_b k (fun t2 => K .ret ⟨[(2, .pv (.bool t2))], []⟩) (K (.exit 0) ⟨[], []⟩) (fun l0 i3 => rec (l0, i3)) v.1 v.2) (fun n v => cadastrelaw11_NodeBack_l2 k (fun t2 => K .ret ⟨[(2, .pv (.bool t2))], []⟩) (K (.exit 0) ⟨[], []⟩) n v.1 v.2) (fun n v => by kernel_rfl) (fun _ => rfl) (fun _ _ => rfl)
theorem cadastrelaw11_NodeBack_l2_ok0 {ρ : Type} (k : Nat) : IterOK UX (cadastrelaw11_NodeBack_cfg (ρ := ρ) k) (cadastrelaw11_NodeBack_G k) (cadastrelaw11_NodeBack_L.getD 0 .skip) 2 (cadastrelaw11_NodeBack_l2_s k) := by
  intro s K r h
  obtain ⟨env, hp⟩ := s
  unfold cadastrelaw11_NodeBack_l2_s at h
  replace h := popS_inv h; obtain ⟨v1, e2, rfl, h⟩ := h
  replace h := as_l26_inv h; obtain ⟨l0, rfl, h⟩ := h
  replace h := popS_inv h; obtain ⟨v3, e4, rfl, h⟩ := h
  replace h := asI_inv h; obtain ⟨i3, rfl, h⟩ := h
  replace h := popN_inv h; obtain ⟨rfl, h⟩ := h
  replace h := popN_inv h; obtain ⟨rfl, h⟩ := h
  exact ⟨k, (cadastrelaw11_NodeBack_l2_eq0 k K k (l0, i3)).trans h⟩
theorem cadastrelaw11_NodeBack_j4_eq0 {ρ : Type} (k : Nat) (K : Ex → St UU → Option ρ) (l0 : List S26) (i3 : Int) : exec UX (cadastrelaw11_NodeBack_cfg k) (cadastrelaw11_NodeBack_G k) (cadastrelaw11_NodeBack_J.getD 0 .skip) ⟨[(0, .pv (.typ (.l26 l0))), (3, .pv (.int .i64 i3))], []⟩ (nrmK UX (cadastrelaw11_NodeBack_cfg k) 4 K) = cadastrelaw11_NodeBack_j4 k (fun t2 => K .ret ⟨[(2, .pv (.bool t2))], []⟩) (fun l0 i3 => K .nxt ⟨[(0, .pv (.typ (.l26 l0))), (3, .pv (.int .i64 i3))], []⟩) l0 i3 := by kernel_rfl
theorem cadastrelaw11_NodeBack_j4_ok0 {ρ : Type} (k : Nat) : JoinOK UX (cadastrelaw11_NodeBack_cfg (ρ := ρ) k) (cadastrelaw11_NodeBack_G k) (cadastrelaw11_NodeBack_J.getD 0 .skip) 4 (cadastrelaw11_NodeBack_j4_s k) := by
  intro s K r h
  obtain ⟨env, hp⟩ := s
  unfold cadastrelaw11_NodeBack_j4_s at h
  replace h := popS_inv h; obtain ⟨v1, e2, rfl, h⟩ := h
  replace h := as_l26_inv h; obtain ⟨l0, rfl, h⟩ := h
  replace h := popS_inv h; obtain ⟨v3, e4, rfl, h⟩ := h
  replace h := asI_inv h; obtain ⟨i3, rfl, h⟩ := h
  replace h := popN_inv h; obtain ⟨rfl, h⟩ := h
  replace h := popN_inv h; obtain ⟨rfl, h⟩ := h
  exact (cadastrelaw11_NodeBack_j4_eq0 k K l0 i3).trans h
theorem cadastrelaw11_NodeBack_j13_eq1 {ρ : Type} (k : Nat) (K : Ex → St UU → Option ρ) (l0 : List S26) (i3 : Int) (kind5 : Int) (next6 : Int) (b7 : List Int) (e8 : Int) (room9 : Int) (p4 : S26) : exec UX (cadastrelaw11_NodeBack_cfg k) (cadastrelaw11_NodeBack_G k) (cadastrelaw11_NodeBack_J.getD 1 .skip) ⟨[(0, .pv (.typ (.l26 l0))), (3, .pv (.int .i64 i3)), (4, .ptr 4 0), (5, .pv (.int .i64 kind5)), (6, .pv (.int .i64 next6)), (7, .pv (.typ (.li_u8 b7))), (8, .pv (.int .i64 e8)), (9, .pv (.int .i64 room9))], [(4, [.pv (.int .i64 p4.f0), .pv (.int .i64 p4.f1), .pv (.typ (.lli_u8 p4.f2)), .pv (.typ (.li_u8 p4.f3))])]⟩ (nrmK UX (cadastrelaw11_NodeBack_cfg k) 13 K) = cadastrelaw11_NodeBack_j13 k (fun l0 i3 => K (.exit 1) ⟨[(0, .pv (.typ (.l26 l0))), (3, .pv (.int .i64 i3))], []⟩) (fun t2 => K .ret ⟨[(2, .pv (.bool t2))], []⟩) (fun l0 i3 => K .nxt ⟨[(0, .pv (.typ (.l26 l0))), (3, .pv (.int .i64 i3))], []⟩) l0 i3 kind5 next6 b7 e8 room9 p4 := by kernel_rfl
theorem cadastrelaw11_NodeBack_j13_ok1 {ρ : Type} (k : Nat) : JoinOK UX (cadastrelaw11_NodeBack_cfg (ρ := ρ) k) (cadastrelaw11_NodeBack_G k) (cadastrelaw11_NodeBack_J.getD 1 .skip) 13 (cadastrelaw11_NodeBack_j13_s k) := by
  intro s K r h
  obtain ⟨env, hp⟩ := s
  unfold cadastrelaw11_NodeBack_j13_s at h
  replace h := popS_inv h; obtain ⟨v1, e2, rfl, h⟩ := h
  replace h := as_l26_inv h; obtain ⟨l0, rfl, h⟩ := h
  replace h := popS_inv h; obtain ⟨v3, e4, rfl, h⟩ := h
  replace h := asI_inv h; obtain ⟨i3, rfl, h⟩ := h
  replace h := popS_inv h; obtain ⟨v5, e6, rfl, h⟩ := h
  replace h := asP_inv h; obtain ⟨rfl, h⟩ := h
  replace h := popS_inv h; obtain ⟨v7, e8, rfl, h⟩ := h
  replace h := asI_inv h; obtain ⟨kind5, rfl, h⟩ := h
  replace h := popS_inv h; obtain ⟨v9, e10, rfl, h⟩ := h
  replace h := asI_inv h; obtain ⟨next6, rfl, h⟩ := h
  replace h := popS_inv h; obtain ⟨v11, e12, rfl, h⟩ := h
  replace h := as_li_u8_inv h; obtain ⟨b7, rfl, h⟩ := h
  replace h := popS_inv h; obtain ⟨v13, e14, rfl, h⟩ := h
  replace h := asI_inv h; obtain ⟨e8, rfl, h⟩ := h
  replace h := popS_inv h; obtain ⟨v15, e16, rfl, h⟩ := h
  replace h := asI_inv h; obtain ⟨room9, rfl, h⟩ := h
  replace h := popN_inv h; obtain ⟨rfl, h⟩ := h
  replace h := popB_inv h; obtain ⟨c17, e18, rfl, h⟩ := h
  replace h := popA_inv h; obtain ⟨v19, c20, rfl, h⟩ := h
  replace h := asI_inv h; obtain ⟨z21, rfl, h⟩ := h
  replace h := popA_inv h; obtain ⟨v22, c23, rfl, h⟩ := h
  replace h := asI_inv h; obtain ⟨z24, rfl, h⟩ := h
  replace h := popA_inv h; obtain ⟨v25, c26, rfl, h⟩ := h
  replace h := as_lli_u8_inv h; obtain ⟨z27, rfl, h⟩ := h
  replace h := popA_inv h; obtain ⟨v28, c29, rfl, h⟩ := h
  replace h := as_li_u8_inv h; obtain ⟨z30, rfl, h⟩ := h
  replace h := popN_inv h; obtain ⟨rfl, h⟩ := h
  replace h := popN_inv h; obtain ⟨rfl, h⟩ := h
  exact (cadastrelaw11_NodeBack_j13_eq1 k K l0 i3 kind5 next6 b7 e8 room9 (⟨z21, z24, z27, z30⟩ : S26)).trans h
theorem cadastrelaw11_NodeBack_j17_eq2 {ρ : Type} (k : Nat) (K : Ex → St UU → Option ρ) (l0 : List S26) (i3 : Int) (kind5 : Int) (next6 : Int) (room9 : Int) (p4 : S26) : exec UX (cadastrelaw11_NodeBack_cfg k) (cadastrelaw11_NodeBack_G k) (cadastrelaw11_NodeBack_J.getD 2 .skip) ⟨[(0, .pv (.typ (.l26 l0))), (3, .pv (.int .i64 i3)), (4, .ptr 4 0), (5, .pv (.int .i64 kind5)), (6, .pv (.int .i64 next6)), (9, .pv (.int .i64 room9))], [(4, [.pv (.int .i64 p4.f0), .pv (.int .i64 p4.f1), .pv (.typ (.lli_u8 p4.f2)), .pv (.typ (.li_u8 p4.f3))])]⟩ (nrmK UX (cadastrelaw11_NodeBack_cfg k) 17 K) = cadastrelaw11_NodeBack_j17 k (fun t2 => K .ret ⟨[(2, .pv (.bool t2))], []⟩) (fun l0 i3 => K .nxt ⟨[(0, .pv (.typ (.l26 l0))), (3, .pv (.int .i64 i3))], []⟩) l0 i3 kind5 next6 room9 p4 := by kernel_rfl
theorem cadastrelaw11_NodeBack_j17_ok2 {ρ : Type} (k : Nat) : JoinOK UX (cadastrelaw11_NodeBack_cfg (ρ := ρ) k) (cadastrelaw11_NodeBack_G k) (cadastrelaw11_NodeBack_J.getD 2 .skip) 17 (cadastrelaw11_NodeBack_j17_s k) := by
  intro s K r h
  obtain ⟨env, hp⟩ := s
  unfold cadastrelaw11_NodeBack_j17_s at h
  replace h := popS_inv h; obtain ⟨v1, e2, rfl, h⟩ := h
  replace h := as_l26_inv h; obtain ⟨l0, rfl, h⟩ := h
  replace h := popS_inv h; obtain ⟨v3, e4, rfl, h⟩ := h
  replace h := asI_inv h; obtain ⟨i3, rfl, h⟩ := h
  replace h := popS_inv h; obtain ⟨v5, e6, rfl, h⟩ := h
  replace h := asP_inv h; obtain ⟨rfl, h⟩ := h
  replace h := popS_inv h; obtain ⟨v7, e8, rfl, h⟩ := h
  replace h := asI_inv h; obtain ⟨kind5, rfl, h⟩ := h
  replace h := popS_inv h; obtain ⟨v9, e10, rfl, h⟩ := h
  replace h := asI_inv h; obtain ⟨next6, rfl, h⟩ := h
  replace h := popS_inv h; obtain ⟨v11, e12, rfl, h⟩ := h
  replace h := asI_inv h; obtain ⟨room9, rfl, h⟩ := h
  replace h := popN_inv h; obtain ⟨rfl, h⟩ := h
  replace h := popB_inv h; obtain ⟨c13, e14, rfl, h⟩ := h
  replace h := popA_inv h; obtain ⟨v15, c16, rfl, h⟩ := h
  replace h := asI_inv h; obtain ⟨z17, rfl, h⟩ := h
  replace h := popA_inv h; obtain ⟨v18, c19, rfl, h⟩ := h
  replace h := asI_inv h; obtain ⟨z20, rfl, h⟩ := h
  replace h := popA_inv h; obtain ⟨v21, c22, rfl, h⟩ := h
  replace h := as_lli_u8_inv h; obtain ⟨z23, rfl, h⟩ := h
  replace h := popA_inv h; obtain ⟨v24, c25, rfl, h⟩ := h
  replace h := as_li_u8_inv h; obtain ⟨z26, rfl, h⟩ := h
  replace h := popN_inv h; obtain ⟨rfl, h⟩ := h
  replace h := popN_inv h; obtain ⟨rfl, h⟩ := h
  exact (cadastrelaw11_NodeBack_j17_eq2 k K l0 i3 kind5 next6 room9 (⟨z17, z20, z23, z26⟩ : S26)).trans h
theorem cadastrelaw11_NodeBack_cok {ρ : Type} (k : Nat) : COK (cadastrelaw11_NodeBack_cfg (ρ := ρ) k) (cadastrelaw11_NodeBack_G k) cadastrelaw11_NodeBack_code :=
  cok_of (tl := [(2, cadastrelaw11_NodeBack_l2_s k)]) (tj := [(17, cadastrelaw11_NodeBack_j17_s k), (13, cadastrelaw11_NodeBack_j13_s k), (4, cadastrelaw11_NodeBack_j4_s k)]) (tb := []) rfl rfl rfl (all_nth 1 (by kernel_rfl) ⟨iter_case (by kernel_rfl) rfl (cadastrelaw11_NodeBack_l2_ok0 k), trivial⟩) (all_nth 3 (by kernel_rfl) ⟨join_case (by kernel_rfl) rfl (cadastrelaw11_NodeBack_j17_ok2 k), join_case (by kernel_rfl) rfl (cadastrelaw11_NodeBack_j13_ok1 k), join_case (by kernel_rfl) rfl (cadastrelaw11_NodeBack_j4_ok0 k), trivial⟩) (fun p hp => by cases hp)
noncomputable def cadastrelaw11_NodeBack_enc (r : Bool) : AV UU := .pv (.bool r)
noncomputable def cadastrelaw11_NodeBack_dec (v : AV UU) (_ : List (List (AV UU))) : Option Bool :=
asB v fun r0 =>
some r0
theorem cadastrelaw11_NodeBack_dec_enc (v : AV UU) (b : List (List (AV UU))) (r : Bool) (h : cadastrelaw11_NodeBack_dec v b = some r) : v = cadastrelaw11_NodeBack_enc r := by
  unfold cadastrelaw11_NodeBack_dec at h
  replace h := asB_inv h; obtain ⟨r0, rfl, h⟩ := h
  cases h
  rfl
theorem cadastrelaw11_NodeBack_eq (k : Nat) (l0 : List S26) : bodyK UX (cadastrelaw11_NodeBack_cfg k) (cadastrelaw11_NodeBack_G k) Try.f7 [.pv (.typ (.l26 l0))] [] cadastrelaw11_NodeBack_dec = cadastrelaw11_NodeBack k l0 := by kernel_rfl
theorem cadastrelaw11_NodeBack_con (k : Nat) (l0 : List S26) (r : Bool) (h : cadastrelaw11_NodeBack k l0 = some r) : Con (X := UX) Try.prog 7 [.pv (.typ (.l26 l0))] [] (cadastrelaw11_NodeBack_enc r) [] :=
  con_of_body xok tok Try.func7 cadastrelaw11_NodeBack_body (cadastrelaw11_NodeBack_gok k) rfl (cadastrelaw11_NodeBack_cok k) (of_decide_eq_true (by kernel_rfl)) cadastrelaw11_NodeBack_dec_enc ((cadastrelaw11_NodeBack_eq k l0).trans h)
noncomputable def cadastrelaw11_NodeBack_an {ρ : Type} (k : Nat) : An UX ρ := fun args bx K =>
popA args fun v1 a2 =>
as_l26 v1 fun l0 =>
popN a2 <|
popN bx <|
(cadastrelaw11_NodeBack k l0).bind fun r => K (cadastrelaw11_NodeBack_enc r) []
theorem cadastrelaw11_NodeBack_ok {ρ : Type} (k : Nat) : AnsOK Try.prog 7 (cadastrelaw11_NodeBack_an (ρ := ρ) k) := by
  intro args bx K r h
  unfold cadastrelaw11_NodeBack_an at h
  replace h := popA_inv h; obtain ⟨v1, a2, rfl, h⟩ := h
  replace h := as_l26_inv h; obtain ⟨l0, rfl, h⟩ := h
  replace h := popN_inv h; obtain ⟨rfl, h⟩ := h
  replace h := popN_inv h; obtain ⟨rfl, h⟩ := h
  replace h := bind_inv h
  obtain ⟨x, hx, h⟩ := h
  exact ⟨there_of Try.func7 (by kernel_rfl) cadastrelaw11_NodeBack_body, _, _, h, cadastrelaw11_NodeBack_con k l0 x hx⟩
end Go.Proofs.Ytekjibpkkgldgaa.B
