/-
  What the program's functions answer: the printed functions' answers.
-/
import Derived.Test.YtahgjfdndpnpfaaTU
namespace Go.Proofs.Ytahgjfdndpnpfaa.T
open Go Go.AX
/-! cadastre/cadastreref2.May -/
noncomputable def cadastreref2_May_code : Code := match Try.f8.body with | some c => c | none => .skip
theorem cadastreref2_May_body : Try.f8.body = some cadastreref2_May_code := by kernel_rfl
noncomputable def cadastreref2_May_G {ρ : Type} (k : Nat) : Ans UX ρ := gnil
theorem cadastreref2_May_gok {ρ : Type} (k : Nat) : GOK Try.prog (cadastreref2_May_G (ρ := ρ) k) := gok_nil
noncomputable def cadastreref2_May_j8_s {ρ : Type} (k : Nat) : Run UX ρ := fun s K =>
popS 1 s.env fun v1 e2 =>
asP 1 0 v1 <|
popN e2 <|
popB 1 s.hp fun c3 e4 =>
popA c3 fun v5 c6 =>
asI .i64 v5 fun z7 =>
popA c6 fun v8 c9 =>
asI .i64 v8 fun z10 =>
popA c9 fun v11 c12 =>
asS v11 fun z13 =>
popN c12 <|
popN e4 <|
cadastreref2_May_j8 k (fun t2 => K .ret ⟨[(2, .pv (.bool t2))], []⟩) (⟨z7, z10, z13⟩ : S23)
noncomputable def cadastreref2_May_cfg {ρ : Type} (k : Nat) : Cfg UX ρ where
  live i := (assoc [(0, [0]), (1, [1]), (2, [1, 4]), (3, [1]), (4, [1, 4]), (5, [1]), (6, [1, 4]), (7, [1, 4]), (8, [1]), (9, [])] i).getD []
  boxes i := (assoc [(0, []), (1, [1]), (2, [1]), (3, [1]), (4, [1]), (5, [1]), (6, [1]), (7, [1]), (8, [1]), (9, [])] i).getD []
  tk _ := []
  n := 27
  labelR l := (assoc [] l).getD 0
  loops := assoc []
  labels := assoc []
  joins := assoc [(8, cadastreref2_May_j8_s k)]
  xl i e := match e with
    | .nxt => assoc [] i
    | .ret => assoc [(8, ([2], []))] i
    | .exit j => (assoc [] i).bind fun l => assoc l j
    | .goto j => (assoc [] i).bind fun l => assoc l j
noncomputable def cadastreref2_May_L : List Code := selI [] (loopsOf cadastreref2_May_code)
noncomputable def cadastreref2_May_J : List Code := selI [8] (joinsOf cadastreref2_May_code)
noncomputable def cadastreref2_May_S : List Code := scopesOf cadastreref2_May_code
theorem cadastreref2_May_j8_eq0 {ρ : Type} (k : Nat) (K : Ex → St UU → Option ρ) (v1 : S23) : exec UX (cadastreref2_May_cfg k) (cadastreref2_May_G k) (cadastreref2_May_J.getD 0 .skip) ⟨[(1, .ptr 1 0)], [(1, [.pv (.int .i64 v1.f0), .pv (.int .i64 v1.f1), .pv (.str v1.f2)])]⟩ (nrmK UX (cadastreref2_May_cfg k) 8 K) = cadastreref2_May_j8 k (fun t2 => K .ret ⟨[(2, .pv (.bool t2))], []⟩) v1 := by kernel_rfl
theorem cadastreref2_May_j8_ok0 {ρ : Type} (k : Nat) : JoinOK UX (cadastreref2_May_cfg (ρ := ρ) k) (cadastreref2_May_G k) (cadastreref2_May_J.getD 0 .skip) 8 (cadastreref2_May_j8_s k) := by
  intro s K r h
  obtain ⟨env, hp⟩ := s
  unfold cadastreref2_May_j8_s at h
  replace h := popS_inv h; obtain ⟨v1, e2, rfl, h⟩ := h
  replace h := asP_inv h; obtain ⟨rfl, h⟩ := h
  replace h := popN_inv h; obtain ⟨rfl, h⟩ := h
  replace h := popB_inv h; obtain ⟨c3, e4, rfl, h⟩ := h
  replace h := popA_inv h; obtain ⟨v5, c6, rfl, h⟩ := h
  replace h := asI_inv h; obtain ⟨z7, rfl, h⟩ := h
  replace h := popA_inv h; obtain ⟨v8, c9, rfl, h⟩ := h
  replace h := asI_inv h; obtain ⟨z10, rfl, h⟩ := h
  replace h := popA_inv h; obtain ⟨v11, c12, rfl, h⟩ := h
  replace h := asS_inv h; obtain ⟨z13, rfl, h⟩ := h
  replace h := popN_inv h; obtain ⟨rfl, h⟩ := h
  replace h := popN_inv h; obtain ⟨rfl, h⟩ := h
  exact (cadastreref2_May_j8_eq0 k K (⟨z7, z10, z13⟩ : S23)).trans h
theorem cadastreref2_May_cok {ρ : Type} (k : Nat) : COK (cadastreref2_May_cfg (ρ := ρ) k) (cadastreref2_May_G k) cadastreref2_May_code :=
  cok_of (tl := []) (tj := [(8, cadastreref2_May_j8_s k)]) (tb := []) rfl rfl rfl (nil_all (by kernel_rfl)) (all_nth 1 (by kernel_rfl) ⟨join_case (by kernel_rfl) rfl (cadastreref2_May_j8_ok0 k), trivial⟩) (fun p hp => by cases hp)
noncomputable def cadastreref2_May_enc (r : Bool) : AV UU := .pv (.bool r)
noncomputable def cadastreref2_May_dec (v : AV UU) (_ : List (List (AV UU))) : Option Bool :=
asB v fun r0 =>
some r0
theorem cadastreref2_May_dec_enc (v : AV UU) (b : List (List (AV UU))) (r : Bool) (h : cadastreref2_May_dec v b = some r) : v = cadastreref2_May_enc r := by
  unfold cadastreref2_May_dec at h
  replace h := asB_inv h; obtain ⟨r0, rfl, h⟩ := h
  cases h
  rfl
theorem cadastreref2_May_eq (k : Nat) (v0 : S23) : bodyK UX (cadastreref2_May_cfg k) (cadastreref2_May_G k) Try.f8 [.pv (.typ (.s23 v0))] [] cadastreref2_May_dec = cadastreref2_May k v0 := by kernel_rfl
theorem cadastreref2_May_con (k : Nat) (v0 : S23) (r : Bool) (h : cadastreref2_May k v0 = some r) : Con (X := UX) Try.prog 8 [.pv (.typ (.s23 v0))] [] (cadastreref2_May_enc r) [] :=
  con_of_body xok tok Try.func8 cadastreref2_May_body (cadastreref2_May_gok k) rfl (cadastreref2_May_cok k) (of_decide_eq_true (by kernel_rfl)) cadastreref2_May_dec_enc ((cadastreref2_May_eq k v0).trans h)
noncomputable def cadastreref2_May_an {ρ : Type} (k : Nat) : An UX ρ := fun args bx K =>
popA args fun v1 a2 =>
as_s23 v1 fun v0 =>
popN a2 <|
popN bx <|
(cadastreref2_May k v0).bind fun r => K (cadastreref2_May_enc r) []
theorem cadastreref2_May_ok {ρ : Type} (k : Nat) : AnsOK Try.prog 8 (cadastreref2_May_an (ρ := ρ) k) := by
  intro args bx K r h
  unfold cadastreref2_May_an at h
  replace h := popA_inv h; obtain ⟨v1, a2, rfl, h⟩ := h
  replace h := as_s23_inv h; obtain ⟨v0, rfl, h⟩ := h
  replace h := popN_inv h; obtain ⟨rfl, h⟩ := h
  replace h := popN_inv h; obtain ⟨rfl, h⟩ := h
  replace h := bind_inv h
  obtain ⟨x, hx, h⟩ := h
  exact ⟨there_of Try.func8 (by kernel_rfl) cadastreref2_May_body, _, _, h, cadastreref2_May_con k v0 x hx⟩

/-! cadastre/value.Good -/
noncomputable def value_Good_code : Code := match Try.f40.body with | some c => c | none => .skip
theorem value_Good_body : Try.f40.body = some value_Good_code := by kernel_rfl
noncomputable def value_Good_G {ρ : Type} (k : Nat) : Ans UX ρ := gnil
theorem value_Good_gok {ρ : Type} (k : Nat) : GOK Try.prog (value_Good_G (ρ := ρ) k) := gok_nil
noncomputable def value_Good_j8_s {ρ : Type} (k : Nat) : Run UX ρ := fun s K =>
popS 1 s.env fun v1 e2 =>
asP 1 0 v1 <|
popN e2 <|
popB 1 s.hp fun c3 e4 =>
popA c3 fun v5 c6 =>
asI .i64 v5 fun z7 =>
popA c6 fun v8 c9 =>
asI .i64 v8 fun z10 =>
popA c9 fun v11 c12 =>
asS v11 fun z13 =>
popN c12 <|
popN e4 <|
value_Good_j8 k (fun t2 => K .ret ⟨[(2, .pv (.bool t2))], []⟩) (⟨z7, z10, z13⟩ : S23)
noncomputable def value_Good_cfg {ρ : Type} (k : Nat) : Cfg UX ρ where
  live i := (assoc [(0, [0]), (1, [1]), (2, [1, 4]), (3, [1]), (4, [1, 4]), (5, [1]), (6, [1, 4]), (7, [1, 4]), (8, [1]), (9, [])] i).getD []
  boxes i := (assoc [(0, []), (1, [1]), (2, [1]), (3, [1]), (4, [1]), (5, [1]), (6, [1]), (7, [1]), (8, [1]), (9, [])] i).getD []
  tk _ := []
  n := 27
  labelR l := (assoc [] l).getD 0
  loops := assoc []
  labels := assoc []
  joins := assoc [(8, value_Good_j8_s k)]
  xl i e := match e with
    | .nxt => assoc [] i
    | .ret => assoc [(8, ([2], []))] i
    | .exit j => (assoc [] i).bind fun l => assoc l j
    | .goto j => (assoc [] i).bind fun l => assoc l j
noncomputable def value_Good_L : List Code := selI [] (loopsOf value_Good_code)
noncomputable def value_Good_J : List Code := selI [8] (joinsOf value_Good_code)
noncomputable def value_Good_S : List Code := scopesOf value_Good_code
theorem value_Good_j8_eq0 {ρ : Type} (k : Nat) (K : Ex → St UU → Option ρ) (v1 : S23) : exec UX (value_Good_cfg k) (value_Good_G k) (value_Good_J.getD 0 .skip) ⟨[(1, .ptr 1 0)], [(1, [.pv (.int .i64 v1.f0), .pv (.int .i64 v1.f1), .pv (.str v1.f2)])]⟩ (nrmK UX (value_Good_cfg k) 8 K) = value_Good_j8 k (fun t2 => K .ret ⟨[(2, .pv (.bool t2))], []⟩) v1 := by kernel_rfl
theorem value_Good_j8_ok0 {ρ : Type} (k : Nat) : JoinOK UX (value_Good_cfg (ρ := ρ) k) (value_Good_G k) (value_Good_J.getD 0 .skip) 8 (value_Good_j8_s k) := by
  intro s K r h
  obtain ⟨env, hp⟩ := s
  unfold value_Good_j8_s at h
  replace h := popS_inv h; obtain ⟨v1, e2, rfl, h⟩ := h
  replace h := asP_inv h; obtain ⟨rfl, h⟩ := h
  replace h := popN_inv h; obtain ⟨rfl, h⟩ := h
  replace h := popB_inv h; obtain ⟨c3, e4, rfl, h⟩ := h
  replace h := popA_inv h; obtain ⟨v5, c6, rfl, h⟩ := h
  replace h := asI_inv h; obtain ⟨z7, rfl, h⟩ := h
  replace h := popA_inv h; obtain ⟨v8, c9, rfl, h⟩ := h
  replace h := asI_inv h; obtain ⟨z10, rfl, h⟩ := h
  replace h := popA_inv h; obtain ⟨v11, c12, rfl, h⟩ := h
  replace h := asS_inv h; obtain ⟨z13, rfl, h⟩ := h
  replace h := popN_inv h; obtain ⟨rfl, h⟩ := h
  replace h := popN_inv h; obtain ⟨rfl, h⟩ := h
  exact (value_Good_j8_eq0 k K (⟨z7, z10, z13⟩ : S23)).trans h
theorem value_Good_cok {ρ : Type} (k : Nat) : COK (value_Good_cfg (ρ := ρ) k) (value_Good_G k) value_Good_code :=
  cok_of (tl := []) (tj := [(8, value_Good_j8_s k)]) (tb := []) rfl rfl rfl (nil_all (by kernel_rfl)) (all_nth 1 (by kernel_rfl) ⟨join_case (by kernel_rfl) rfl (value_Good_j8_ok0 k), trivial⟩) (fun p hp => by cases hp)
noncomputable def value_Good_enc (r : Bool) : AV UU := .pv (.bool r)
noncomputable def value_Good_dec (v : AV UU) (_ : List (List (AV UU))) : Option Bool :=
asB v fun r0 =>
some r0
theorem value_Good_dec_enc (v : AV UU) (b : List (List (AV UU))) (r : Bool) (h : value_Good_dec v b = some r) : v = value_Good_enc r := by
  unfold value_Good_dec at h
  replace h := asB_inv h; obtain ⟨r0, rfl, h⟩ := h
  cases h
  rfl
theorem value_Good_eq (k : Nat) (v0 : S23) : bodyK UX (value_Good_cfg k) (value_Good_G k) Try.f40 [.pv (.typ (.s23 v0))] [] value_Good_dec = value_Good k v0 := by kernel_rfl
theorem value_Good_con (k : Nat) (v0 : S23) (r : Bool) (h : value_Good k v0 = some r) : Con (X := UX) Try.prog 40 [.pv (.typ (.s23 v0))] [] (value_Good_enc r) [] :=
  con_of_body xok tok Try.func40 value_Good_body (value_Good_gok k) rfl (value_Good_cok k) (of_decide_eq_true (by kernel_rfl)) value_Good_dec_enc ((value_Good_eq k v0).trans h)
noncomputable def value_Good_an {ρ : Type} (k : Nat) : An UX ρ := fun args bx K =>
popA args fun v1 a2 =>
as_s23 v1 fun v0 =>
popN a2 <|
popN bx <|
(value_Good k v0).bind fun r => K (value_Good_enc r) []
theorem value_Good_ok {ρ : Type} (k : Nat) : AnsOK Try.prog 40 (value_Good_an (ρ := ρ) k) := by
  intro args bx K r h
  unfold value_Good_an at h
  replace h := popA_inv h; obtain ⟨v1, a2, rfl, h⟩ := h
  replace h := as_s23_inv h; obtain ⟨v0, rfl, h⟩ := h
  replace h := popN_inv h; obtain ⟨rfl, h⟩ := h
  replace h := popN_inv h; obtain ⟨rfl, h⟩ := h
  replace h := bind_inv h
  obtain ⟨x, hx, h⟩ := h
  exact ⟨there_of Try.func40 (by kernel_rfl) value_Good_body, _, _, h, value_Good_con k v0 x hx⟩

/-! cadastre/value.All -/
noncomputable def value_All_code : Code := match Try.f31.body with | some c => c | none => .skip
theorem value_All_body : Try.f31.body = some value_All_code := by kernel_rfl
noncomputable def value_All_G {ρ : Type} (k : Nat) : Ans UX ρ := gk 40 (value_Good_an k) (gnil)
theorem value_All_gok {ρ : Type} (k : Nat) : GOK Try.prog (value_All_G (ρ := ρ) k) := gok_cons (value_Good_ok k) (gok_nil)
noncomputable def value_All_j2_s {ρ : Type} (k : Nat) : Run UX ρ := fun s K =>
popS 0 s.env fun v1 e2 =>
as_l23 v1 fun l0 =>
popS 3 e2 fun v3 e4 =>
asI .i64 v3 fun i3 =>
popN e4 <|
popN s.hp <|
value_All_j2 k (fun t2 => K .ret ⟨[(2, .pv (.bool t2))], []⟩) (fun l0 i3 => K (.goto 0) ⟨[(0, .pv (.typ (.l23 l0))), (3, .pv (.int .i64 i3))], []⟩) l0 i3
noncomputable def value_All_g0_s {ρ : Type} (k : Nat) : Run UX ρ := fun s K =>
popS 0 s.env fun v1 e2 =>
as_l23 v1 fun l0 =>
popS 3 e2 fun v3 e4 =>
asI .i64 v3 fun i3 =>
popN e4 <|
popN s.hp <|
value_All_g0 k (fun t2 => K .ret ⟨[(2, .pv (.bool t2))], []⟩) k l0 i3
noncomputable def value_All_cfg {ρ : Type} (k : Nat) : Cfg UX ρ where
  live i := (assoc [(0, [0]), (1, [0]), (2, [0, 3]), (3, []), (4, [0, 3]), (5, [0, 3]), (6, [])] i).getD []
  boxes i := (assoc [(0, []), (1, []), (2, []), (3, []), (4, []), (5, []), (6, [])] i).getD []
  tk _ := []
  n := 15
  labelR l := (assoc [(0, 2)] l).getD 0
  loops := assoc []
  labels := assoc [(0, value_All_g0_s k)]
  joins := assoc [(2, value_All_j2_s k)]
  xl i e := match e with
    | .nxt => assoc [] i
    | .ret => assoc [(2, ([2], [])), (2, ([2], []))] i
    | .exit j => (assoc [] i).bind fun l => assoc l j
    | .goto j => (assoc [(2, [(0, ([0, 3], []))])] i).bind fun l => assoc l j
noncomputable def value_All_L : List Code := selI [] (loopsOf value_All_code)
noncomputable def value_All_J : List Code := selI [2] (joinsOf value_All_code)
noncomputable def value_All_S : List Code := scopesOf value_All_code
theorem value_All_j2_eq0 {ρ : Type} (k : Nat) (K : Ex → St UU → Option ρ) (l0 : List S23) (i3 : Int) : exec UX (value_All_cfg k) (value_All_G k) (value_All_J.getD 0 .skip) ⟨[(0, .pv (.typ (.l23 l0))), (3, .pv (.int .i64 i3))], []⟩ (nrmK UX (value_All_cfg k) 2 K) = value_All_j2 k (fun t2 => K .ret ⟨[(2, .pv (.bool t2))], []⟩) (fun l0 i3 => K (.goto 0) ⟨[(0, .pv (.typ (.l23 l0))), (3, .pv (.int .i64 i3))], []⟩) l0 i3 := by kernel_rfl
theorem value_All_j2_ok0 {ρ : Type} (k : Nat) : JoinOK UX (value_All_cfg (ρ := ρ) k) (value_All_G k) (value_All_J.getD 0 .skip) 2 (value_All_j2_s k) := by
  intro s K r h
  obtain ⟨env, hp⟩ := s
  unfold value_All_j2_s at h
  replace h := popS_inv h; obtain ⟨v1, e2, rfl, h⟩ := h
  replace h := as_l23_inv h; obtain ⟨l0, rfl, h⟩ := h
  replace h := popS_inv h; obtain ⟨v3, e4, rfl, h⟩ := h
  replace h := asI_inv h; obtain ⟨i3, rfl, h⟩ := h
  replace h := popN_inv h; obtain ⟨rfl, h⟩ := h
  replace h := popN_inv h; obtain ⟨rfl, h⟩ := h
  exact (value_All_j2_eq0 k K l0 i3).trans h
noncomputable def value_All_g0_f0 {ρ : Type} (k : Nat) : Run UX ρ := (suff UX (value_All_cfg k) (value_All_G k) (value_All_S.getD 0 .skip) 0).getD fun _ _ => none
theorem value_All_g0_eq0 {ρ : Type} (k : Nat) (K : Ex → St UU → Option ρ) : ∀ (n : Nat) (v : (List S23) × Int), scopeN UX (fun l s => s.at (value_All_cfg (ρ := ρ) k).live (value_All_cfg (ρ := ρ) k).boxes (some ((value_All_cfg (ρ := ρ) k).labelR l))) (suff UX (value_All_cfg k) (value_All_G k) (value_All_S.getD 0 .skip)) (fun l => ((value_All_cfg (ρ := ρ) k).labels l).isSome) n (value_All_g0_f0 k) ⟨[(0, .pv (.typ (.l23 v.1))), (3, .pv (.int .i64 v.2))], []⟩ (nrmK UX (value_All_cfg k) ((value_All_cfg (ρ := ρ) k).labelR 0) K) = value_All_g0 k (fun t2 => K .ret ⟨[(2, .pv (.bool t2))], []⟩) n v.1 v.2 :=
  scope_rec (X := UX) (fun _ => value_All_g0_f0 k) (fun v => ⟨[(0, .pv (.typ (.l23 v.1))), (3, .pv (.int .i64 v.2))], []⟩) (fun rec v => value_All_g0_b k (fun t2 => K .ret ⟨[(2, .pv (.bool t2))], []⟩) (fun l0 i3 => rec (l0, i3)) v.1 v.2) (fun n v => value_All_g0 k (fun t2 => K .ret ⟨[(2, .pv (.bool t2))], []⟩) n v.1 v.2) (fun n v => by kernel_rfl) (fun _ => rfl) (fun _ _ => rfl)
theorem value_All_g0_ok0 {ρ : Type} (k : Nat) : LabOK UX (value_All_cfg (ρ := ρ) k) (value_All_G k) (value_All_S.getD 0 .skip) 0 (value_All_g0_s k) := by
  intro f hf s K r h
  have hf : value_All_g0_f0 k = f := by unfold value_All_g0_f0; rw [hf]; rfl
  subst hf
  obtain ⟨env, hp⟩ := s
  unfold value_All_g0_s at h
  replace h := popS_inv h; obtain ⟨v1, e2, rfl, h⟩ := h
  replace h := as_l23_inv h; obtain ⟨l0, rfl, h⟩ := h
  replace h := popS_inv h; obtain ⟨v3, e4, rfl, h⟩ := h
  replace h := asI_inv h; obtain ⟨i3, rfl, h⟩ := h
  replace h := popN_inv h; obtain ⟨rfl, h⟩ := h
  replace h := popN_inv h; obtain ⟨rfl, h⟩ := h
  exact ⟨k, (value_All_g0_eq0 k K k (l0, i3)).trans h⟩
theorem value_All_cok {ρ : Type} (k : Nat) : COK (value_All_cfg (ρ := ρ) k) (value_All_G k) value_All_code :=
  cok_of (tl := []) (tj := [(2, value_All_j2_s k)]) (tb := [(0, value_All_g0_s k)]) rfl rfl rfl (nil_all (by kernel_rfl)) (all_nth 1 (by kernel_rfl) ⟨join_case (by kernel_rfl) rfl (value_All_j2_ok0 k), trivial⟩) (fun p hp => by
    simp only [List.mem_cons, List.not_mem_nil, or_false] at hp
    subst hp
    · exact all_nth 1 (by kernel_rfl) ⟨value_All_g0_ok0 k, trivial⟩)
noncomputable def value_All_enc (r : Bool) : AV UU := .pv (.bool r)
noncomputable def value_All_dec (v : AV UU) (_ : List (List (AV UU))) : Option Bool :=
asB v fun r0 =>
some r0
theorem value_All_dec_enc (v : AV UU) (b : List (List (AV UU))) (r : Bool) (h : value_All_dec v b = some r) : v = value_All_enc r := by
  unfold value_All_dec at h
  replace h := asB_inv h; obtain ⟨r0, rfl, h⟩ := h
  cases h
  rfl
theorem value_All_eq (k : Nat) (l0 : List S23) : bodyK UX (value_All_cfg k) (value_All_G k) Try.f31 [.pv (.typ (.l23 l0))] [] value_All_dec = value_All k l0 := by kernel_rfl
theorem value_All_con (k : Nat) (l0 : List S23) (r : Bool) (h : value_All k l0 = some r) : Con (X := UX) Try.prog 31 [.pv (.typ (.l23 l0))] [] (value_All_enc r) [] :=
  con_of_body xok tok Try.func31 value_All_body (value_All_gok k) rfl (value_All_cok k) (of_decide_eq_true (by kernel_rfl)) value_All_dec_enc ((value_All_eq k l0).trans h)
noncomputable def value_All_an {ρ : Type} (k : Nat) : An UX ρ := fun args bx K =>
popA args fun v1 a2 =>
as_l23 v1 fun l0 =>
popN a2 <|
popN bx <|
(value_All k l0).bind fun r => K (value_All_enc r) []
theorem value_All_ok {ρ : Type} (k : Nat) : AnsOK Try.prog 31 (value_All_an (ρ := ρ) k) := by
  intro args bx K r h
  unfold value_All_an at h
  replace h := popA_inv h; obtain ⟨v1, a2, rfl, h⟩ := h
  replace h := as_l23_inv h; obtain ⟨l0, rfl, h⟩ := h
  replace h := popN_inv h; obtain ⟨rfl, h⟩ := h
  replace h := popN_inv h; obtain ⟨rfl, h⟩ := h
  replace h := bind_inv h
  obtain ⟨x, hx, h⟩ := h
  exact ⟨there_of Try.func31 (by kernel_rfl) value_All_body, _, _, h, value_All_con k l0 x hx⟩

/-! cadastre/arith.reckon -/
noncomputable def arith_reckon_code : Code := match Try.f32.body with | some c => c | none => .skip
theorem arith_reckon_body : Try.f32.body = some arith_reckon_code := by kernel_rfl
noncomputable def arith_reckon_G {ρ : Type} (k : Nat) : Ans UX ρ := gnil
theorem arith_reckon_gok {ρ : Type} (k : Nat) : GOK Try.prog (arith_reckon_G (ρ := ρ) k) := gok_nil
noncomputable def arith_reckon_j18_s {ρ : Type} (k : Nat) : Run UX ρ := fun s K =>
popS 6 s.env fun v1 e2 =>
asI .i64 v1 fun n6 =>
popN e2 <|
popN s.hp <|
arith_reckon_j18 k (fun n6 e7 => K .ret ⟨[(6, .pv (.int .i64 n6)), (7, .pv (.int .i64 e7))], []⟩) n6
noncomputable def arith_reckon_j13_s {ρ : Type} (k : Nat) : Run UX ρ := fun s K =>
popS 1 s.env fun v1 e2 =>
asI .i64 v1 fun a1 =>
popS 2 e2 fun v3 e4 =>
asI .i64 v3 fun b2 =>
popN e4 <|
popN s.hp <|
arith_reckon_j13 k (K (.goto 0) ⟨[], []⟩) (fun n6 => K .nxt ⟨[(6, .pv (.int .i64 n6))], []⟩) a1 b2
noncomputable def arith_reckon_cfg {ρ : Type} (k : Nat) : Cfg UX ρ where
  live i := (assoc [(0, [0, 1, 2]), (1, [0, 1, 2, 6]), (2, [1, 2, 6]), (3, [1, 2]), (4, [1, 2, 6, 8]), (5, [1, 2]), (6, [1, 2]), (7, [1, 2, 6, 8]), (8, [1, 2]), (9, [1, 2]), (10, [1, 2, 6, 8]), (11, [1, 2]), (12, []), (13, [1, 2]), (14, [1, 2, 6]), (15, [1, 2, 6, 8]), (16, [1, 2]), (17, [1, 2]), (18, [6]), (19, [])] i).getD []
  boxes i := (assoc [(0, []), (1, []), (2, []), (3, []), (4, []), (5, []), (6, []), (7, []), (8, []), (9, []), (10, []), (11, []), (12, []), (13, []), (14, []), (15, []), (16, []), (17, []), (18, []), (19, [])] i).getD []
  tk _ := []
  n := 104
  labelR l := (assoc [] l).getD 0
  loops := assoc []
  labels := assoc []
  joins := assoc [(18, arith_reckon_j18_s k), (13, arith_reckon_j13_s k)]
  xl i e := match e with
    | .nxt => assoc [(13, ([6], []))] i
    | .ret => assoc [(18, ([6, 7], []))] i
    | .exit j => (assoc [] i).bind fun l => assoc l j
    | .goto j => (assoc [(13, [(0, ([], []))])] i).bind fun l => assoc l j
noncomputable def arith_reckon_L : List Code := selI [] (loopsOf arith_reckon_code)
noncomputable def arith_reckon_J : List Code := selI [18, 13] (joinsOf arith_reckon_code)
noncomputable def arith_reckon_S : List Code := scopesOf arith_reckon_code
theorem arith_reckon_j18_eq0 {ρ : Type} (k : Nat) (K : Ex → St UU → Option ρ) (n6 : Int) : exec UX (arith_reckon_cfg k) (arith_reckon_G k) (arith_reckon_J.getD 0 .skip) ⟨[(6, .pv (.int .i64 n6))], []⟩ (nrmK UX (arith_reckon_cfg k) 18 K) = arith_reckon_j18 k (fun n6 e7 => K .ret ⟨[(6, .pv (.int .i64 n6)), (7, .pv (.int .i64 e7))], []⟩) n6 := by kernel_rfl
theorem arith_reckon_j18_ok0 {ρ : Type} (k : Nat) : JoinOK UX (arith_reckon_cfg (ρ := ρ) k) (arith_reckon_G k) (arith_reckon_J.getD 0 .skip) 18 (arith_reckon_j18_s k) := by
  intro s K r h
  obtain ⟨env, hp⟩ := s
  unfold arith_reckon_j18_s at h
  replace h := popS_inv h; obtain ⟨v1, e2, rfl, h⟩ := h
  replace h := asI_inv h; obtain ⟨n6, rfl, h⟩ := h
  replace h := popN_inv h; obtain ⟨rfl, h⟩ := h
  replace h := popN_inv h; obtain ⟨rfl, h⟩ := h
  exact (arith_reckon_j18_eq0 k K n6).trans h
theorem arith_reckon_j13_eq1 {ρ : Type} (k : Nat) (K : Ex → St UU → Option ρ) (a1 : Int) (b2 : Int) : exec UX (arith_reckon_cfg k) (arith_reckon_G k) (arith_reckon_J.getD 1 .skip) ⟨[(1, .pv (.int .i64 a1)), (2, .pv (.int .i64 b2))], []⟩ (nrmK UX (arith_reckon_cfg k) 13 K) = arith_reckon_j13 k (K (.goto 0) ⟨[], []⟩) (fun n6 => K .nxt ⟨[(6, .pv (.int .i64 n6))], []⟩) a1 b2 := by kernel_rfl
theorem arith_reckon_j13_ok1 {ρ : Type} (k : Nat) : JoinOK UX (arith_reckon_cfg (ρ := ρ) k) (arith_reckon_G k) (arith_reckon_J.getD 1 .skip) 13 (arith_reckon_j13_s k) := by
  intro s K r h
  obtain ⟨env, hp⟩ := s
  unfold arith_reckon_j13_s at h
  replace h := popS_inv h; obtain ⟨v1, e2, rfl, h⟩ := h
  replace h := asI_inv h; obtain ⟨a1, rfl, h⟩ := h
  replace h := popS_inv h; obtain ⟨v3, e4, rfl, h⟩ := h
  replace h := asI_inv h; obtain ⟨b2, rfl, h⟩ := h
  replace h := popN_inv h; obtain ⟨rfl, h⟩ := h
  replace h := popN_inv h; obtain ⟨rfl, h⟩ := h
  exact (arith_reckon_j13_eq1 k K a1 b2).trans h
theorem arith_reckon_cok {ρ : Type} (k : Nat) : COK (arith_reckon_cfg (ρ := ρ) k) (arith_reckon_G k) arith_reckon_code :=
  cok_of (tl := []) (tj := [(18, arith_reckon_j18_s k), (13, arith_reckon_j13_s k)]) (tb := []) rfl rfl rfl (nil_all (by kernel_rfl)) (all_nth 2 (by kernel_rfl) ⟨join_case (by kernel_rfl) rfl (arith_reckon_j13_ok1 k), join_case (by kernel_rfl) rfl (arith_reckon_j18_ok0 k), trivial⟩) (fun p hp => by cases hp)
noncomputable def arith_reckon_enc (r : Int × Int) : AV UU := .pv (.tup [.int .i64 r.1, .int .i64 r.2])
noncomputable def arith_reckon_dec (v : AV UU) (_ : List (List (AV UU))) : Option (Int × Int) :=
asT v fun q1 =>
popA q1 fun p2 q3 =>
asI .i64 (.pv p2) fun r0 =>
popA q3 fun p4 q5 =>
asI .i64 (.pv p4) fun r1 =>
popN q5 <|
some (r0, r1)
theorem arith_reckon_dec_enc (v : AV UU) (b : List (List (AV UU))) (r : Int × Int) (h : arith_reckon_dec v b = some r) : v = arith_reckon_enc r := by
  unfold arith_reckon_dec at h
  replace h := asT_inv h; obtain ⟨q1, rfl, h⟩ := h
  replace h := popA_inv h; obtain ⟨p2, q3, rfl, h⟩ := h
  replace h := asI_inv h; obtain ⟨r0, e, h⟩ := h; cases e
  replace h := popA_inv h; obtain ⟨p4, q5, rfl, h⟩ := h
  replace h := asI_inv h; obtain ⟨r1, e, h⟩ := h; cases e
  replace h := popN_inv h; obtain ⟨rfl, h⟩ := h
  cases h
  rfl
theorem arith_reckon_eq (k : Nat) (op0 : Int) (a1 : Int) (b2 : Int) : bodyK UX (arith_reckon_cfg k) (arith_reckon_G k) Try.f32 [.pv (.int .i64 op0), .pv (.int .i64 a1), .pv (.int .i64 b2)] [] arith_reckon_dec = arith_reckon k op0 a1 b2 := by kernel_rfl
theorem arith_reckon_con (k : Nat) (op0 : Int) (a1 : Int) (b2 : Int) (r : Int × Int) (h : arith_reckon k op0 a1 b2 = some r) : Con (X := UX) Try.prog 32 [.pv (.int .i64 op0), .pv (.int .i64 a1), .pv (.int .i64 b2)] [] (arith_reckon_enc r) [] :=
  con_of_body xok tok Try.func32 arith_reckon_body (arith_reckon_gok k) rfl (arith_reckon_cok k) (of_decide_eq_true (by kernel_rfl)) arith_reckon_dec_enc ((arith_reckon_eq k op0 a1 b2).trans h)
noncomputable def arith_reckon_an {ρ : Type} (k : Nat) : An UX ρ := fun args bx K =>
popA args fun v1 a2 =>
asI .i64 v1 fun op0 =>
popA a2 fun v3 a4 =>
asI .i64 v3 fun a1 =>
popA a4 fun v5 a6 =>
asI .i64 v5 fun b2 =>
popN a6 <|
popN bx <|
(arith_reckon k op0 a1 b2).bind fun r => K (arith_reckon_enc r) []
theorem arith_reckon_ok {ρ : Type} (k : Nat) : AnsOK Try.prog 32 (arith_reckon_an (ρ := ρ) k) := by
  intro args bx K r h
  unfold arith_reckon_an at h
  replace h := popA_inv h; obtain ⟨v1, a2, rfl, h⟩ := h
  replace h := asI_inv h; obtain ⟨op0, rfl, h⟩ := h
  replace h := popA_inv h; obtain ⟨v3, a4, rfl, h⟩ := h
  replace h := asI_inv h; obtain ⟨a1, rfl, h⟩ := h
  replace h := popA_inv h; obtain ⟨v5, a6, rfl, h⟩ := h
  replace h := asI_inv h; obtain ⟨b2, rfl, h⟩ := h
  replace h := popN_inv h; obtain ⟨rfl, h⟩ := h
  replace h := popN_inv h; obtain ⟨rfl, h⟩ := h
  replace h := bind_inv h
  obtain ⟨x, hx, h⟩ := h
  exact ⟨there_of Try.func32 (by kernel_rfl) arith_reckon_body, _, _, h, arith_reckon_con k op0 a1 b2 x hx⟩

/-! cadastre/value.Int -/
noncomputable def value_Int_code : Code := match Try.f33.body with | some c => c | none => .skip
theorem value_Int_body : Try.f33.body = some value_Int_code := by kernel_rfl
noncomputable def value_Int_G {ρ : Type} (k : Nat) : Ans UX ρ := gnil
theorem value_Int_gok {ρ : Type} (k : Nat) : GOK Try.prog (value_Int_G (ρ := ρ) k) := gok_nil
noncomputable def value_Int_cfg {ρ : Type} (k : Nat) : Cfg UX ρ where
  live i := (assoc [(0, [0]), (1, [0, 2])] i).getD []
  boxes i := (assoc [(0, []), (1, [2])] i).getD []
  tk _ := []
  n := 5
  labelR l := (assoc [] l).getD 0
  loops := assoc []
  labels := assoc []
  joins := assoc []
  xl i e := match e with
    | .nxt => assoc [] i
    | .ret => assoc [] i
    | .exit j => (assoc [] i).bind fun l => assoc l j
    | .goto j => (assoc [] i).bind fun l => assoc l j
noncomputable def value_Int_L : List Code := selI [] (loopsOf value_Int_code)
noncomputable def value_Int_J : List Code := selI [] (joinsOf value_Int_code)
noncomputable def value_Int_S : List Code := scopesOf value_Int_code
theorem value_Int_cok {ρ : Type} (k : Nat) : COK (value_Int_cfg (ρ := ρ) k) (value_Int_G k) value_Int_code :=
  cok_of (tl := []) (tj := []) (tb := []) rfl rfl rfl (nil_all (by kernel_rfl)) (nil_all (by kernel_rfl)) (fun p hp => by cases hp)
noncomputable def value_Int_enc (r : S23) : AV UU := .pv (.typ (.s23 r))
noncomputable def value_Int_dec (v : AV UU) (_ : List (List (AV UU))) : Option S23 :=
as_s23 v fun r0 =>
some r0
theorem value_Int_dec_enc (v : AV UU) (b : List (List (AV UU))) (r : S23) (h : value_Int_dec v b = some r) : v = value_Int_enc r := by
  unfold value_Int_dec at h
  replace h := as_s23_inv h; obtain ⟨r0, rfl, h⟩ := h
  cases h
  rfl
theorem value_Int_eq (k : Nat) (n0 : Int) : bodyK UX (value_Int_cfg k) (value_Int_G k) Try.f33 [.pv (.int .i64 n0)] [] value_Int_dec = value_Int k n0 := by kernel_rfl
theorem value_Int_con (k : Nat) (n0 : Int) (r : S23) (h : value_Int k n0 = some r) : Con (X := UX) Try.prog 33 [.pv (.int .i64 n0)] [] (value_Int_enc r) [] :=
  con_of_body xok tok Try.func33 value_Int_body (value_Int_gok k) rfl (value_Int_cok k) (of_decide_eq_true (by kernel_rfl)) value_Int_dec_enc ((value_Int_eq k n0).trans h)
noncomputable def value_Int_an {ρ : Type} (k : Nat) : An UX ρ := fun args bx K =>
popA args fun v1 a2 =>
asI .i64 v1 fun n0 =>
popN a2 <|
popN bx <|
(value_Int k n0).bind fun r => K (value_Int_enc r) []
theorem value_Int_ok {ρ : Type} (k : Nat) : AnsOK Try.prog 33 (value_Int_an (ρ := ρ) k) := by
  intro args bx K r h
  unfold value_Int_an at h
  replace h := popA_inv h; obtain ⟨v1, a2, rfl, h⟩ := h
  replace h := asI_inv h; obtain ⟨n0, rfl, h⟩ := h
  replace h := popN_inv h; obtain ⟨rfl, h⟩ := h
  replace h := popN_inv h; obtain ⟨rfl, h⟩ := h
  replace h := bind_inv h
  obtain ⟨x, hx, h⟩ := h
  exact ⟨there_of Try.func33 (by kernel_rfl) value_Int_body, _, _, h, value_Int_con k n0 x hx⟩

/-! cadastre/arith.Do -/
noncomputable def arith_Do_code : Code := match Try.f9.body with | some c => c | none => .skip
theorem arith_Do_body : Try.f9.body = some arith_Do_code := by kernel_rfl
noncomputable def arith_Do_G {ρ : Type} (k : Nat) : Ans UX ρ := gk 31 (value_All_an k) (gk 32 (arith_reckon_an k) (gk 33 (value_Int_an k) (gnil)))
theorem arith_Do_gok {ρ : Type} (k : Nat) : GOK Try.prog (arith_Do_G (ρ := ρ) k) := gok_cons (value_All_ok k) (gok_cons (arith_reckon_ok k) (gok_cons (value_Int_ok k) (gok_nil)))
noncomputable def arith_Do_j7_s {ρ : Type} (k : Nat) : Run UX ρ := fun s K =>
popS 0 s.env fun v1 e2 =>
asI .i64 v1 fun op0 =>
popS 4 e2 fun v3 e4 =>
asP 4 0 v3 <|
popS 5 e4 fun v5 e6 =>
asP 5 0 v5 <|
popS 6 e6 fun v7 e8 =>
asP 6 0 v7 <|
popN e8 <|
popB 4 s.hp fun c9 e10 =>
popA c9 fun v11 c12 =>
asI .i64 v11 fun z13 =>
popA c12 fun v14 c15 =>
asI .i64 v14 fun z16 =>
popA c15 fun v17 c18 =>
asS v17 fun z19 =>
popN c18 <|
popB 5 e10 fun c20 e21 =>
popA c20 fun v22 c23 =>
asI .i64 v22 fun z24 =>
popA c23 fun v25 c26 =>
asI .i64 v25 fun z27 =>
popA c26 fun v28 c29 =>
asS v28 fun z30 =>
popN c29 <|
popB 6 e21 fun c31 e32 =>
popA c31 fun v33 c34 =>
asI .i64 v33 fun z35 =>
popA c34 fun v36 c37 =>
asI .i64 v36 fun z38 =>
popA c37 fun v39 c40 =>
asS v39 fun z41 =>
popN c40 <|
popN e32 <|
arith_Do_j7 k (fun t7 t6 => K .ret ⟨[(6, .ptr 6 0), (7, .pv (.int .i64 t7))], [(6, [.pv (.int .i64 t6.f0), .pv (.int .i64 t6.f1), .pv (.str t6.f2)])]⟩) (fun op0 a4 b5 t6 => K .nxt ⟨[(0, .pv (.int .i64 op0)), (4, .ptr 4 0), (5, .ptr 5 0), (6, .ptr 6 0)], [(4, [.pv (.int .i64 a4.f0), .pv (.int .i64 a4.f1), .pv (.str a4.f2)]), (5, [.pv (.int .i64 b5.f0), .pv (.int .i64 b5.f1), .pv (.str b5.f2)]), (6, [.pv (.int .i64 t6.f0), .pv (.int .i64 t6.f1), .pv (.str t6.f2)])]⟩) op0 (⟨z13, z16, z19⟩ : S23) (⟨z24, z27, z30⟩ : S23) (⟨z35, z38, z41⟩ : S23)
noncomputable def arith_Do_j5_s {ρ : Type} (k : Nat) : Run UX ρ := fun s K =>
popS 0 s.env fun v1 e2 =>
asI .i64 v1 fun op0 =>
popS 4 e2 fun v3 e4 =>
asP 4 0 v3 <|
popS 5 e4 fun v5 e6 =>
asP 5 0 v5 <|
popS 6 e6 fun v7 e8 =>
asP 6 0 v7 <|
popN e8 <|
popB 4 s.hp fun c9 e10 =>
popA c9 fun v11 c12 =>
asI .i64 v11 fun z13 =>
popA c12 fun v14 c15 =>
asI .i64 v14 fun z16 =>
popA c15 fun v17 c18 =>
asS v17 fun z19 =>
popN c18 <|
popB 5 e10 fun c20 e21 =>
popA c20 fun v22 c23 =>
asI .i64 v22 fun z24 =>
popA c23 fun v25 c26 =>
asI .i64 v25 fun z27 =>
popA c26 fun v28 c29 =>
asS v28 fun z30 =>
popN c29 <|
popB 6 e21 fun c31 e32 =>
popA c31 fun v33 c34 =>
asI .i64 v33 fun z35 =>
popA c34 fun v36 c37 =>
asI .i64 v36 fun z38 =>
popA c37 fun v39 c40 =>
asS v39 fun z41 =>
popN c40 <|
popN e32 <|
arith_Do_j5 k (fun t7 t6 => K .ret ⟨[(6, .ptr 6 0), (7, .pv (.int .i64 t7))], [(6, [.pv (.int .i64 t6.f0), .pv (.int .i64 t6.f1), .pv (.str t6.f2)])]⟩) (fun op0 a4 b5 t6 => K .nxt ⟨[(0, .pv (.int .i64 op0)), (4, .ptr 4 0), (5, .ptr 5 0), (6, .ptr 6 0)], [(4, [.pv (.int .i64 a4.f0), .pv (.int .i64 a4.f1), .pv (.str a4.f2)]), (5, [.pv (.int .i64 b5.f0), .pv (.int .i64 b5.f1), .pv (.str b5.f2)]), (6, [.pv (.int .i64 t6.f0), .pv (.int .i64 t6.f1), .pv (.str t6.f2)])]⟩) op0 (⟨z13, z16, z19⟩ : S23) (⟨z24, z27, z30⟩ : S23) (⟨z35, z38, z41⟩ : S23)
noncomputable def arith_Do_j3_s {ρ : Type} (k : Nat) : Run UX ρ := fun s K =>
popS 0 s.env fun v1 e2 =>
asI .i64 v1 fun op0 =>
popS 4 e2 fun v3 e4 =>
asP 4 0 v3 <|
popS 5 e4 fun v5 e6 =>
asP 5 0 v5 <|
popS 6 e6 fun v7 e8 =>
asP 6 0 v7 <|
popN e8 <|
popB 4 s.hp fun c9 e10 =>
popA c9 fun v11 c12 =>
asI .i64 v11 fun z13 =>
popA c12 fun v14 c15 =>
asI .i64 v14 fun z16 =>
popA c15 fun v17 c18 =>
asS v17 fun z19 =>
popN c18 <|
popB 5 e10 fun c20 e21 =>
popA c20 fun v22 c23 =>
asI .i64 v22 fun z24 =>
popA c23 fun v25 c26 =>
asI .i64 v25 fun z27 =>
popA c26 fun v28 c29 =>
asS v28 fun z30 =>
popN c29 <|
popB 6 e21 fun c31 e32 =>
popA c31 fun v33 c34 =>
asI .i64 v33 fun z35 =>
popA c34 fun v36 c37 =>
asI .i64 v36 fun z38 =>
popA c37 fun v39 c40 =>
asS v39 fun z41 =>
popN c40 <|
popN e32 <|
arith_Do_j3 k (fun t7 t6 => K .ret ⟨[(6, .ptr 6 0), (7, .pv (.int .i64 t7))], [(6, [.pv (.int .i64 t6.f0), .pv (.int .i64 t6.f1), .pv (.str t6.f2)])]⟩) (fun op0 a4 b5 t6 => K .nxt ⟨[(0, .pv (.int .i64 op0)), (4, .ptr 4 0), (5, .ptr 5 0), (6, .ptr 6 0)], [(4, [.pv (.int .i64 a4.f0), .pv (.int .i64 a4.f1), .pv (.str a4.f2)]), (5, [.pv (.int .i64 b5.f0), .pv (.int .i64 b5.f1), .pv (.str b5.f2)]), (6, [.pv (.int .i64 t6.f0), .pv (.int .i64 t6.f1), .pv (.str t6.f2)])]⟩) op0 (⟨z13, z16, z19⟩ : S23) (⟨z24, z27, z30⟩ : S23) (⟨z35, z38, z41⟩ : S23)
noncomputable def arith_Do_j9_s {ρ : Type} (k : Nat) : Run UX ρ := fun s K =>
popS 0 s.env fun v1 e2 =>
asI .i64 v1 fun op0 =>
popS 4 e2 fun v3 e4 =>
asP 4 0 v3 <|
popS 5 e4 fun v5 e6 =>
asP 5 0 v5 <|
popS 6 e6 fun v7 e8 =>
asP 6 0 v7 <|
popN e8 <|
popB 4 s.hp fun c9 e10 =>
popA c9 fun v11 c12 =>
asI .i64 v11 fun z13 =>
popA c12 fun v14 c15 =>
asI .i64 v14 fun z16 =>
popA c15 fun v17 c18 =>
asS v17 fun z19 =>
popN c18 <|
popB 5 e10 fun c20 e21 =>
popA c20 fun v22 c23 =>
asI .i64 v22 fun z24 =>
popA c23 fun v25 c26 =>
asI .i64 v25 fun z27 =>
popA c26 fun v28 c29 =>
asS v28 fun z30 =>
popN c29 <|
popB 6 e21 fun c31 e32 =>
popA c31 fun v33 c34 =>
asI .i64 v33 fun z35 =>
popA c34 fun v36 c37 =>
asI .i64 v36 fun z38 =>
popA c37 fun v39 c40 =>
asS v39 fun z41 =>
popN c40 <|
popN e32 <|
arith_Do_j9 k (fun t7 t6 => K .ret ⟨[(6, .ptr 6 0), (7, .pv (.int .i64 t7))], [(6, [.pv (.int .i64 t6.f0), .pv (.int .i64 t6.f1), .pv (.str t6.f2)])]⟩) op0 (⟨z13, z16, z19⟩ : S23) (⟨z24, z27, z30⟩ : S23) (⟨z35, z38, z41⟩ : S23)
noncomputable def arith_Do_cfg {ρ : Type} (k : Nat) : Cfg UX ρ where
  live i := (assoc [(0, [0, 1, 2]), (1, [0, 4, 5, 6]), (2, [6]), (3, [0, 4, 5, 6]), (4, [6]), (5, [0, 4, 5, 6]), (6, [6]), (7, [0, 4, 5, 6]), (8, [6]), (9, [0, 4, 5, 6]), (10, [6, 8, 9]), (11, [6, 9]), (12, [6, 8])] i).getD []
  boxes i := (assoc [(0, []), (1, [4, 5, 6]), (2, [6]), (3, [4, 5, 6]), (4, [6]), (5, [4, 5, 6]), (6, [6]), (7, [4, 5, 6]), (8, [6]), (9, [4, 5, 6]), (10, [6]), (11, [6]), (12, [6])] i).getD []
  tk _ := []
  n := 73
  labelR l := (assoc [] l).getD 0
  loops := assoc []
  labels := assoc []
  joins := assoc [(7, arith_Do_j7_s k), (5, arith_Do_j5_s k), (3, arith_Do_j3_s k), (9, arith_Do_j9_s k)]
  xl i e := match e with
    | .nxt => assoc [(7, ([0, 4, 5, 6], [4, 5, 6])), (5, ([0, 4, 5, 6], [4, 5, 6])), (3, ([0, 4, 5, 6], [4, 5, 6]))] i
    | .ret => assoc [(7, ([6, 7], [6])), (5, ([6, 7], [6])), (3, ([6, 7], [6])), (9, ([6, 7], [6]))] i
    | .exit j => (assoc [] i).bind fun l => assoc l j
    | .goto j => (assoc [] i).bind fun l => assoc l j
noncomputable def arith_Do_L : List Code := selI [] (loopsOf arith_Do_code)
noncomputable def arith_Do_J : List Code := selI [7, 5, 3, 9] (joinsOf arith_Do_code)
noncomputable def arith_Do_S : List Code := scopesOf arith_Do_code
theorem arith_Do_j9_eq0 {ρ : Type} (k : Nat) (K : Ex → St UU → Option ρ) (op0 : Int) (a4 : S23) (b5 : S23) (t6 : S23) : exec UX (arith_Do_cfg k) (arith_Do_G k) (arith_Do_J.getD 0 .skip) ⟨[(0, .pv (.int .i64 op0)), (4, .ptr 4 0), (5, .ptr 5 0), (6, .ptr 6 0)], [(4, [.pv (.int .i64 a4.f0), .pv (.int .i64 a4.f1), .pv (.str a4.f2)]), (5, [.pv (.int .i64 b5.f0), .pv (.int .i64 b5.f1), .pv (.str b5.f2)]), (6, [.pv (.int .i64 t6.f0), .pv (.int .i64 t6.f1), .pv (.str t6.f2)])]⟩ (nrmK UX (arith_Do_cfg k) 9 K) = arith_Do_j9 k (fun t7 t6 => K .ret ⟨[(6, .ptr 6 0), (7, .pv (.int .i64 t7))], [(6, [.pv (.int .i64 t6.f0), .pv (.int .i64 t6.f1), .pv (.str t6.f2)])]⟩) op0 a4 b5 t6 := by kernel_rfl
theorem arith_Do_j9_ok0 {ρ : Type} (k : Nat) : JoinOK UX (arith_Do_cfg (ρ := ρ) k) (arith_Do_G k) (arith_Do_J.getD 0 .skip) 9 (arith_Do_j9_s k) := by
  intro s K r h
  obtain ⟨env, hp⟩ := s
  unfold arith_Do_j9_s at h
  replace h := popS_inv h; obtain ⟨v1, e2, rfl, h⟩ := h
  replace h := asI_inv h; obtain ⟨op0, rfl, h⟩ := h
  replace h := popS_inv h; obtain ⟨v3, e4, rfl, h⟩ := h
  replace h := asP_inv h; obtain ⟨rfl, h⟩ := h
  replace h := popS_inv h; obtain ⟨v5, e6, rfl, h⟩ := h
  replace h := asP_inv h; obtain ⟨rfl, h⟩ := h
  replace h := popS_inv h; obtain ⟨v7, e8, rfl, h⟩ := h
  replace h := asP_inv h; obtain ⟨rfl, h⟩ := h
  replace h := popN_inv h; obtain ⟨rfl, h⟩ := h
  replace h := popB_inv h; obtain ⟨c9, e10, rfl, h⟩ := h
  replace h := popA_inv h; obtain ⟨v11, c12, rfl, h⟩ := h
  replace h := asI_inv h; obtain ⟨z13, rfl, h⟩ := h
  replace h := popA_inv h; obtain ⟨v14, c15, rfl, h⟩ := h
  replace h := asI_inv h; obtain ⟨z16, rfl, h⟩ := h
  replace h := popA_inv h; obtain ⟨v17, c18, rfl, h⟩ := h
  replace h := asS_inv h; obtain ⟨z19, rfl, h⟩ := h
  replace h := popN_inv h; obtain ⟨rfl, h⟩ := h
  replace h := popB_inv h; obtain ⟨c20, e21, rfl, h⟩ := h
  replace h := popA_inv h; obtain ⟨v22, c23, rfl, h⟩ := h
  replace h := asI_inv h; obtain ⟨z24, rfl, h⟩ := h
  replace h := popA_inv h; obtain ⟨v25, c26, rfl, h⟩ := h
  replace h := asI_inv h; obtain ⟨z27, rfl, h⟩ := h
  replace h := popA_inv h; obtain ⟨v28, c29, rfl, h⟩ := h
  replace h := asS_inv h; obtain ⟨z30, rfl, h⟩ := h
  replace h := popN_inv h; obtain ⟨rfl, h⟩ := h
  replace h := popB_inv h; obtain ⟨c31, e32, rfl, h⟩ := h
  replace h := popA_inv h; obtain ⟨v33, c34, rfl, h⟩ := h
  replace h := asI_inv h; obtain ⟨z35, rfl, h⟩ := h
  replace h := popA_inv h; obtain ⟨v36, c37, rfl, h⟩ := h
  replace h := asI_inv h; obtain ⟨z38, rfl, h⟩ := h
  replace h := popA_inv h; obtain ⟨v39, c40, rfl, h⟩ := h
  replace h := asS_inv h; obtain ⟨z41, rfl, h⟩ := h
  replace h := popN_inv h; obtain ⟨rfl, h⟩ := h
  replace h := popN_inv h; obtain ⟨rfl, h⟩ := h
  exact (arith_Do_j9_eq0 k K op0 (⟨z13, z16, z19⟩ : S23) (⟨z24, z27, z30⟩ : S23) (⟨z35, z38, z41⟩ : S23)).trans h
theorem arith_Do_j3_eq1 {ρ : Type} (k : Nat) (K : Ex → St UU → Option ρ) (op0 : Int) (a4 : S23) (b5 : S23) (t6 : S23) : exec UX (arith_Do_cfg k) (arith_Do_G k) (arith_Do_J.getD 1 .skip) ⟨[(0, .pv (.int .i64 op0)), (4, .ptr 4 0), (5, .ptr 5 0), (6, .ptr 6 0)], [(4, [.pv (.int .i64 a4.f0), .pv (.int .i64 a4.f1), .pv (.str a4.f2)]), (5, [.pv (.int .i64 b5.f0), .pv (.int .i64 b5.f1), .pv (.str b5.f2)]), (6, [.pv (.int .i64 t6.f0), .pv (.int .i64 t6.f1), .pv (.str t6.f2)])]⟩ (nrmK UX (arith_Do_cfg k) 3 K) = arith_Do_j3 k (fun t7 t6 => K .ret ⟨[(6, .ptr 6 0), (7, .pv (.int .i64 t7))], [(6, [.pv (.int .i64 t6.f0), .pv (.int .i64 t6.f1), .pv (.str t6.f2)])]⟩) (fun op0 a4 b5 t6 => K .nxt ⟨[(0, .pv (.int .i64 op0)), (4, .ptr 4 0), (5, .ptr 5 0), (6, .ptr 6 0)], [(4, [.pv (.int .i64 a4.f0), .pv (.int .i64 a4.f1), .pv (.str a4.f2)]), (5, [.pv (.int .i64 b5.f0), .pv (.int .i64 b5.f1), .pv (.str b5.f2)]), (6, [.pv (.int .i64 t6.f0), .pv (.int .i64 t6.f1), .pv (.str t6.f2)])]⟩) op0 a4 b5 t6 := by kernel_rfl
theorem arith_Do_j3_ok1 {ρ : Type} (k : Nat) : JoinOK UX (arith_Do_cfg (ρ := ρ) k) (arith_Do_G k) (arith_Do_J.getD 1 .skip) 3 (arith_Do_j3_s k) := by
  intro s K r h
  obtain ⟨env, hp⟩ := s
  unfold arith_Do_j3_s at h
  replace h := popS_inv h; obtain ⟨v1, e2, rfl, h⟩ := h
  replace h := asI_inv h; obtain ⟨op0, rfl, h⟩ := h
  replace h := popS_inv h; obtain ⟨v3, e4, rfl, h⟩ := h
  replace h := asP_inv h; obtain ⟨rfl, h⟩ := h
  replace h := popS_inv h; obtain ⟨v5, e6, rfl, h⟩ := h
  replace h := asP_inv h; obtain ⟨rfl, h⟩ := h
  replace h := popS_inv h; obtain ⟨v7, e8, rfl, h⟩ := h
  replace h := asP_inv h; obtain ⟨rfl, h⟩ := h
  replace h := popN_inv h; obtain ⟨rfl, h⟩ := h
  replace h := popB_inv h; obtain ⟨c9, e10, rfl, h⟩ := h
  replace h := popA_inv h; obtain ⟨v11, c12, rfl, h⟩ := h
  replace h := asI_inv h; obtain ⟨z13, rfl, h⟩ := h
  replace h := popA_inv h; obtain ⟨v14, c15, rfl, h⟩ := h
  replace h := asI_inv h; obtain ⟨z16, rfl, h⟩ := h
  replace h := popA_inv h; obtain ⟨v17, c18, rfl, h⟩ := h
  replace h := asS_inv h; obtain ⟨z19, rfl, h⟩ := h
  replace h := popN_inv h; obtain ⟨rfl, h⟩ := h
  replace h := popB_inv h; obtain ⟨c20, e21, rfl, h⟩ := h
  replace h := popA_inv h; obtain ⟨v22, c23, rfl, h⟩ := h
  replace h := asI_inv h; obtain ⟨z24, rfl, h⟩ := h
  replace h := popA_inv h; obtain ⟨v25, c26, rfl, h⟩ := h
  replace h := asI_inv h; obtain ⟨z27, rfl, h⟩ := h
  replace h := popA_inv h; obtain ⟨v28, c29, rfl, h⟩ := h
  replace h := asS_inv h; obtain ⟨z30, rfl, h⟩ := h
  replace h := popN_inv h; obtain ⟨rfl, h⟩ := h
  replace h := popB_inv h; obtain ⟨c31, e32, rfl, h⟩ := h
  replace h := popA_inv h; obtain ⟨v33, c34, rfl, h⟩ := h
  replace h := asI_inv h; obtain ⟨z35, rfl, h⟩ := h
  replace h := popA_inv h; obtain ⟨v36, c37, rfl, h⟩ := h
  replace h := asI_inv h; obtain ⟨z38, rfl, h⟩ := h
  replace h := popA_inv h; obtain ⟨v39, c40, rfl, h⟩ := h
  replace h := asS_inv h; obtain ⟨z41, rfl, h⟩ := h
  replace h := popN_inv h; obtain ⟨rfl, h⟩ := h
  replace h := popN_inv h; obtain ⟨rfl, h⟩ := h
  exact (arith_Do_j3_eq1 k K op0 (⟨z13, z16, z19⟩ : S23) (⟨z24, z27, z30⟩ : S23) (⟨z35, z38, z41⟩ : S23)).trans h
theorem arith_Do_j5_eq2 {ρ : Type} (k : Nat) (K : Ex → St UU → Option ρ) (op0 : Int) (a4 : S23) (b5 : S23) (t6 : S23) : exec UX (arith_Do_cfg k) (arith_Do_G k) (arith_Do_J.getD 2 .skip) ⟨[(0, .pv (.int .i64 op0)), (4, .ptr 4 0), (5, .ptr 5 0), (6, .ptr 6 0)], [(4, [.pv (.int .i64 a4.f0), .pv (.int .i64 a4.f1), .pv (.str a4.f2)]), (5, [.pv (.int .i64 b5.f0), .pv (.int .i64 b5.f1), .pv (.str b5.f2)]), (6, [.pv (.int .i64 t6.f0), .pv (.int .i64 t6.f1), .pv (.str t6.f2)])]⟩ (nrmK UX (arith_Do_cfg k) 5 K) = arith_Do_j5 k (fun t7 t6 => K .ret ⟨[(6, .ptr 6 0), (7, .pv (.int .i64 t7))], [(6, [.pv (.int .i64 t6.f0), .pv (.int .i64 t6.f1), .pv (.str t6.f2)])]⟩) (fun op0 a4 b5 t6 => K .nxt ⟨[(0, .pv (.int .i64 op0)), (4, .ptr 4 0), (5, .ptr 5 0), (6, .ptr 6 0)], [(4, [.pv (.int .i64 a4.f0), .pv (.int .i64 a4.f1), .pv (.str a4.f2)]), (5, [.pv (.int .i64 b5.f0), .pv (.int .i64 b5.f1), .pv (.str b5.f2)]), (6, [.pv (.int .i64 t6.f0), .pv (.int .i64 t6.f1), .pv (.str t6.f2)])]⟩) op0 a4 b5 t6 := by kernel_rfl
theorem arith_Do_j5_ok2 {ρ : Type} (k : Nat) : JoinOK UX (arith_Do_cfg (ρ := ρ) k) (arith_Do_G k) (arith_Do_J.getD 2 .skip) 5 (arith_Do_j5_s k) := by
  intro s K r h
  obtain ⟨env, hp⟩ := s
  unfold arith_Do_j5_s at h
  replace h := popS_inv h; obtain ⟨v1, e2, rfl, h⟩ := h
  replace h := asI_inv h; obtain ⟨op0, rfl, h⟩ := h
  replace h := popS_inv h; obtain ⟨v3, e4, rfl, h⟩ := h
  replace h := asP_inv h; obtain ⟨rfl, h⟩ := h
  replace h := popS_inv h; obtain ⟨v5, e6, rfl, h⟩ := h
  replace h := asP_inv h; obtain ⟨rfl, h⟩ := h
  replace h := popS_inv h; obtain ⟨v7, e8, rfl, h⟩ := h
  replace h := asP_inv h; obtain ⟨rfl, h⟩ := h
  replace h := popN_inv h; obtain ⟨rfl, h⟩ := h
  replace h := popB_inv h; obtain ⟨c9, e10, rfl, h⟩ := h
  replace h := popA_inv h; obtain ⟨v11, c12, rfl, h⟩ := h
  replace h := asI_inv h; obtain ⟨z13, rfl, h⟩ := h
  replace h := popA_inv h; obtain ⟨v14, c15, rfl, h⟩ := h
  replace h := asI_inv h; obtain ⟨z16, rfl, h⟩ := h
  replace h := popA_inv h; obtain ⟨v17, c18, rfl, h⟩ := h
  replace h := asS_inv h; obtain ⟨z19, rfl, h⟩ := h
  replace h := popN_inv h; obtain ⟨rfl, h⟩ := h
  replace h := popB_inv h; obtain ⟨c20, e21, rfl, h⟩ := h
  replace h := popA_inv h; obtain ⟨v22, c23, rfl, h⟩ := h
  replace h := asI_inv h; obtain ⟨z24, rfl, h⟩ := h
  replace h := popA_inv h; obtain ⟨v25, c26, rfl, h⟩ := h
  replace h := asI_inv h; obtain ⟨z27, rfl, h⟩ := h
  replace h := popA_inv h; obtain ⟨v28, c29, rfl, h⟩ := h
  replace h := asS_inv h; obtain ⟨z30, rfl, h⟩ := h
  replace h := popN_inv h; obtain ⟨rfl, h⟩ := h
  replace h := popB_inv h; obtain ⟨c31, e32, rfl, h⟩ := h
  replace h := popA_inv h; obtain ⟨v33, c34, rfl, h⟩ := h
  replace h := asI_inv h; obtain ⟨z35, rfl, h⟩ := h
  replace h := popA_inv h; obtain ⟨v36, c37, rfl, h⟩ := h
  replace h := asI_inv h; obtain ⟨z38, rfl, h⟩ := h
  replace h := popA_inv h; obtain ⟨v39, c40, rfl, h⟩ := h
  replace h := asS_inv h; obtain ⟨z41, rfl, h⟩ := h
  replace h := popN_inv h; obtain ⟨rfl, h⟩ := h
  replace h := popN_inv h; obtain ⟨rfl, h⟩ := h
  exact (arith_Do_j5_eq2 k K op0 (⟨z13, z16, z19⟩ : S23) (⟨z24, z27, z30⟩ : S23) (⟨z35, z38, z41⟩ : S23)).trans h
theorem arith_Do_j7_eq3 {ρ : Type} (k : Nat) (K : Ex → St UU → Option ρ) (op0 : Int) (a4 : S23) (b5 : S23) (t6 : S23) : exec UX (arith_Do_cfg k) (arith_Do_G k) (arith_Do_J.getD 3 .skip) ⟨[(0, .pv (.int .i64 op0)), (4, .ptr 4 0), (5, .ptr 5 0), (6, .ptr 6 0)], [(4, [.pv (.int .i64 a4.f0), .pv (.int .i64 a4.f1), .pv (.str a4.f2)]), (5, [.pv (.int .i64 b5.f0), .pv (.int .i64 b5.f1), .pv (.str b5.f2)]), (6, [.pv (.int .i64 t6.f0), .pv (.int .i64 t6.f1), .pv (.str t6.f2)])]⟩ (nrmK UX (arith_Do_cfg k) 7 K) = arith_Do_j7 k (fun t7 t6 => K .ret ⟨[(6, .ptr 6 0), (7, .pv (.int .i64 t7))], [(6, [.pv (.int .i64 t6.f0), .pv (.int .i64 t6.f1), .pv (.str t6.f2)])]⟩) (fun op0 a4 b5 t6 => K .nxt ⟨[(0, .pv (.int .i64 op0)), (4, .ptr 4 0), (5, .ptr 5 0), (6, .ptr 6 0)], [(4, [.pv (.int .i64 a4.f0), .pv (.int .i64 a4.f1), .pv (.str a4.f2)]), (5, [.pv (.int .i64 b5.f0), .pv (.int .i64 b5.f1), .pv (.str b5.f2)]), (6, [.pv (.int .i64 t6.f0), .pv (.int .i64 t6.f1), .pv (.str t6.f2)])]⟩) op0 a4 b5 t6 := by kernel_rfl
theorem arith_Do_j7_ok3 {ρ : Type} (k : Nat) : JoinOK UX (arith_Do_cfg (ρ := ρ) k) (arith_Do_G k) (arith_Do_J.getD 3 .skip) 7 (arith_Do_j7_s k) := by
  intro s K r h
  obtain ⟨env, hp⟩ := s
  unfold arith_Do_j7_s at h
  replace h := popS_inv h; obtain ⟨v1, e2, rfl, h⟩ := h
  replace h := asI_inv h; obtain ⟨op0, rfl, h⟩ := h
  replace h := popS_inv h; obtain ⟨v3, e4, rfl, h⟩ := h
  replace h := asP_inv h; obtain ⟨rfl, h⟩ := h
  replace h := popS_inv h; obtain ⟨v5, e6, rfl, h⟩ := h
  replace h := asP_inv h; obtain ⟨rfl, h⟩ := h
  replace h := popS_inv h; obtain ⟨v7, e8, rfl, h⟩ := h
  replace h := asP_inv h; obtain ⟨rfl, h⟩ := h
  replace h := popN_inv h; obtain ⟨rfl, h⟩ := h
  replace h := popB_inv h; obtain ⟨c9, e10, rfl, h⟩ := h
  replace h := popA_inv h; obtain ⟨v11, c12, rfl, h⟩ := h
  replace h := asI_inv h; obtain ⟨z13, rfl, h⟩ := h
  replace h := popA_inv h; obtain ⟨v14, c15, rfl, h⟩ := h
  replace h := asI_inv h; obtain ⟨z16, rfl, h⟩ := h
  replace h := popA_inv h; obtain ⟨v17, c18, rfl, h⟩ := h
  replace h := asS_inv h; obtain ⟨z19, rfl, h⟩ := h
  replace h := popN_inv h; obtain ⟨rfl, h⟩ := h
  replace h := popB_inv h; obtain ⟨c20, e21, rfl, h⟩ := h
  replace h := popA_inv h; obtain ⟨v22, c23, rfl, h⟩ := h
  replace h := asI_inv h; obtain ⟨z24, rfl, h⟩ := h
  replace h := popA_inv h; obtain ⟨v25, c26, rfl, h⟩ := h
  replace h := asI_inv h; obtain ⟨z27, rfl, h⟩ := h
  replace h := popA_inv h; obtain ⟨v28, c29, rfl, h⟩ := h
  replace h := asS_inv h; obtain ⟨z30, rfl, h⟩ := h
  replace h := popN_inv h; obtain ⟨rfl, h⟩ := h
  replace h := popB_inv h; obtain ⟨c31, e32, rfl, h⟩ := h
  replace h := popA_inv h; obtain ⟨v33, c34, rfl, h⟩ := h
  replace h := asI_inv h; obtain ⟨z35, rfl, h⟩ := h
  replace h := popA_inv h; obtain ⟨v36, c37, rfl, h⟩ := h
  replace h := asI_inv h; obtain ⟨z38, rfl, h⟩ := h
  replace h := popA_inv h; obtain ⟨v39, c40, rfl, h⟩ := h
  replace h := asS_inv h; obtain ⟨z41, rfl, h⟩ := h
  replace h := popN_inv h; obtain ⟨rfl, h⟩ := h
  replace h := popN_inv h; obtain ⟨rfl, h⟩ := h
  exact (arith_Do_j7_eq3 k K op0 (⟨z13, z16, z19⟩ : S23) (⟨z24, z27, z30⟩ : S23) (⟨z35, z38, z41⟩ : S23)).trans h
theorem arith_Do_cok {ρ : Type} (k : Nat) : COK (arith_Do_cfg (ρ := ρ) k) (arith_Do_G k) arith_Do_code :=
  cok_of (tl := []) (tj := [(7, arith_Do_j7_s k), (5, arith_Do_j5_s k), (3, arith_Do_j3_s k), (9, arith_Do_j9_s k)]) (tb := []) rfl rfl rfl (nil_all (by kernel_rfl)) (all_nth 4 (by kernel_rfl) ⟨join_case (by kernel_rfl) rfl (arith_Do_j7_ok3 k), join_case (by kernel_rfl) rfl (arith_Do_j5_ok2 k), join_case (by kernel_rfl) rfl (arith_Do_j3_ok1 k), join_case (by kernel_rfl) rfl (arith_Do_j9_ok0 k), trivial⟩) (fun p hp => by cases hp)
noncomputable def arith_Do_enc (r : S23 × Int) : AV UU := .pv (.tup [.typ (.s23 r.1), .int .i64 r.2])
noncomputable def arith_Do_dec (v : AV UU) (_ : List (List (AV UU))) : Option (S23 × Int) :=
asT v fun q1 =>
popA q1 fun p2 q3 =>
as_s23 (.pv p2) fun r0 =>
popA q3 fun p4 q5 =>
asI .i64 (.pv p4) fun r1 =>
popN q5 <|
some (r0, r1)
theorem arith_Do_dec_enc (v : AV UU) (b : List (List (AV UU))) (r : S23 × Int) (h : arith_Do_dec v b = some r) : v = arith_Do_enc r := by
  unfold arith_Do_dec at h
  replace h := asT_inv h; obtain ⟨q1, rfl, h⟩ := h
  replace h := popA_inv h; obtain ⟨p2, q3, rfl, h⟩ := h
  replace h := as_s23_inv h; obtain ⟨r0, e, h⟩ := h; cases e
  replace h := popA_inv h; obtain ⟨p4, q5, rfl, h⟩ := h
  replace h := asI_inv h; obtain ⟨r1, e, h⟩ := h; cases e
  replace h := popN_inv h; obtain ⟨rfl, h⟩ := h
  cases h
  rfl
theorem arith_Do_eq (k : Nat) (op0 : Int) (a1 : S23) (b2 : S23) : bodyK UX (arith_Do_cfg k) (arith_Do_G k) Try.f9 [.pv (.int .i64 op0), .pv (.typ (.s23 a1)), .pv (.typ (.s23 b2))] [] arith_Do_dec = arith_Do k op0 a1 b2 := by kernel_rfl
theorem arith_Do_con (k : Nat) (op0 : Int) (a1 : S23) (b2 : S23) (r : S23 × Int) (h : arith_Do k op0 a1 b2 = some r) : Con (X := UX) Try.prog 9 [.pv (.int .i64 op0), .pv (.typ (.s23 a1)), .pv (.typ (.s23 b2))] [] (arith_Do_enc r) [] :=
  con_of_body xok tok Try.func9 arith_Do_body (arith_Do_gok k) rfl (arith_Do_cok k) (of_decide_eq_true (by kernel_rfl)) arith_Do_dec_enc ((arith_Do_eq k op0 a1 b2).trans h)
noncomputable def arith_Do_an {ρ : Type} (k : Nat) : An UX ρ := fun args bx K =>
popA args fun v1 a2 =>
asI .i64 v1 fun op0 =>
popA a2 fun v3 a4 =>
as_s23 v3 fun a1 =>
popA a4 fun v5 a6 =>
as_s23 v5 fun b2 =>
popN a6 <|
popN bx <|
(arith_Do k op0 a1 b2).bind fun r => K (arith_Do_enc r) []
theorem arith_Do_ok {ρ : Type} (k : Nat) : AnsOK Try.prog 9 (arith_Do_an (ρ := ρ) k) := by
  intro args bx K r h
  unfold arith_Do_an at h
  replace h := popA_inv h; obtain ⟨v1, a2, rfl, h⟩ := h
  replace h := asI_inv h; obtain ⟨op0, rfl, h⟩ := h
  replace h := popA_inv h; obtain ⟨v3, a4, rfl, h⟩ := h
  replace h := as_s23_inv h; obtain ⟨a1, rfl, h⟩ := h
  replace h := popA_inv h; obtain ⟨v5, a6, rfl, h⟩ := h
  replace h := as_s23_inv h; obtain ⟨b2, rfl, h⟩ := h
  replace h := popN_inv h; obtain ⟨rfl, h⟩ := h
  replace h := popN_inv h; obtain ⟨rfl, h⟩ := h
  replace h := bind_inv h
  obtain ⟨x, hx, h⟩ := h
  exact ⟨there_of Try.func9 (by kernel_rfl) arith_Do_body, _, _, h, arith_Do_con k op0 a1 b2 x hx⟩

/-! cadastre/cadastrelaw4.num -/
noncomputable def cadastrelaw4_num_code : Code := match Try.f10.body with | some c => c | none => .skip
theorem cadastrelaw4_num_body : Try.f10.body = some cadastrelaw4_num_code := by kernel_rfl
noncomputable def cadastrelaw4_num_G {ρ : Type} (k : Nat) : Ans UX ρ := gnil
theorem cadastrelaw4_num_gok {ρ : Type} (k : Nat) : GOK Try.prog (cadastrelaw4_num_G (ρ := ρ) k) := gok_nil
noncomputable def cadastrelaw4_num_cfg {ρ : Type} (k : Nat) : Cfg UX ρ where
  live i := (assoc [(0, [0]), (1, [0])] i).getD []
  boxes i := (assoc [(0, []), (1, [])] i).getD []
  tk _ := []
  n := 4
  labelR l := (assoc [] l).getD 0
  loops := assoc []
  labels := assoc []
  joins := assoc []
  xl i e := match e with
    | .nxt => assoc [] i
    | .ret => assoc [] i
    | .exit j => (assoc [] i).bind fun l => assoc l j
    | .goto j => (assoc [] i).bind fun l => assoc l j
noncomputable def cadastrelaw4_num_L : List Code := selI [] (loopsOf cadastrelaw4_num_code)
noncomputable def cadastrelaw4_num_J : List Code := selI [] (joinsOf cadastrelaw4_num_code)
noncomputable def cadastrelaw4_num_S : List Code := scopesOf cadastrelaw4_num_code
theorem cadastrelaw4_num_cok {ρ : Type} (k : Nat) : COK (cadastrelaw4_num_cfg (ρ := ρ) k) (cadastrelaw4_num_G k) cadastrelaw4_num_code :=
  cok_of (tl := []) (tj := []) (tb := []) rfl rfl rfl (nil_all (by kernel_rfl)) (nil_all (by kernel_rfl)) (fun p hp => by cases hp)
noncomputable def cadastrelaw4_num_enc (r : Int) : AV UU := .pv (.int .i64 r)
noncomputable def cadastrelaw4_num_dec (v : AV UU) (_ : List (List (AV UU))) : Option Int :=
asI .i64 v fun r0 =>
some r0
theorem cadastrelaw4_num_dec_enc (v : AV UU) (b : List (List (AV UU))) (r : Int) (h : cadastrelaw4_num_dec v b = some r) : v = cadastrelaw4_num_enc r := by
  unfold cadastrelaw4_num_dec at h
  replace h := asI_inv h; obtain ⟨r0, rfl, h⟩ := h
  cases h
  rfl
theorem cadastrelaw4_num_eq (k : Nat) (e0 : Int) : bodyK UX (cadastrelaw4_num_cfg k) (cadastrelaw4_num_G k) Try.f10 [.pv (.int .i64 e0)] [] cadastrelaw4_num_dec = cadastrelaw4_num k e0 := by kernel_rfl
theorem cadastrelaw4_num_con (k : Nat) (e0 : Int) (r : Int) (h : cadastrelaw4_num k e0 = some r) : Con (X := UX) Try.prog 10 [.pv (.int .i64 e0)] [] (cadastrelaw4_num_enc r) [] :=
  con_of_body xok tok Try.func10 cadastrelaw4_num_body (cadastrelaw4_num_gok k) rfl (cadastrelaw4_num_cok k) (of_decide_eq_true (by kernel_rfl)) cadastrelaw4_num_dec_enc ((cadastrelaw4_num_eq k e0).trans h)
noncomputable def cadastrelaw4_num_an {ρ : Type} (k : Nat) : An UX ρ := fun args bx K =>
popA args fun v1 a2 =>
asI .i64 v1 fun e0 =>
popN a2 <|
popN bx <|
(cadastrelaw4_num k e0).bind fun r => K (cadastrelaw4_num_enc r) []
theorem cadastrelaw4_num_ok {ρ : Type} (k : Nat) : AnsOK Try.prog 10 (cadastrelaw4_num_an (ρ := ρ) k) := by
  intro args bx K r h
  unfold cadastrelaw4_num_an at h
  replace h := popA_inv h; obtain ⟨v1, a2, rfl, h⟩ := h
  replace h := asI_inv h; obtain ⟨e0, rfl, h⟩ := h
  replace h := popN_inv h; obtain ⟨rfl, h⟩ := h
  replace h := popN_inv h; obtain ⟨rfl, h⟩ := h
  replace h := bind_inv h
  obtain ⟨x, hx, h⟩ := h
  exact ⟨there_of Try.func10 (by kernel_rfl) cadastrelaw4_num_body, _, _, h, cadastrelaw4_num_con k e0 x hx⟩

/-! cadastre/cadastrelaw4.wakes -/
noncomputable def cadastrelaw4_wakes_code : Code := match Try.f11.body with | some c => c | none => .skip
theorem cadastrelaw4_wakes_body : Try.f11.body = some cadastrelaw4_wakes_code := by kernel_rfl
noncomputable def cadastrelaw4_wakes_G {ρ : Type} (k : Nat) : Ans UX ρ := gk 9 (arith_Do_an k) (gk 10 (cadastrelaw4_num_an k) (gnil))
theorem cadastrelaw4_wakes_gok {ρ : Type} (k : Nat) : GOK Try.prog (cadastrelaw4_wakes_G (ρ := ρ) k) := gok_cons (arith_Do_ok k) (gok_cons (cadastrelaw4_num_ok k) (gok_nil))
noncomputable def cadastrelaw4_wakes_cfg {ρ : Type} (k : Nat) : Cfg UX ρ where
  live i := (assoc [(0, []), (1, []), (2, [1, 2])] i).getD []
  boxes i := (assoc [(0, []), (1, []), (2, [1])] i).getD []
  tk _ := []
  n := 17
  labelR l := (assoc [] l).getD 0
  loops := assoc []
  labels := assoc []
  joins := assoc []
  xl i e := match e with
    | .nxt => assoc [] i
    | .ret => assoc [] i
    | .exit j => (assoc [] i).bind fun l => assoc l j
    | .goto j => (assoc [] i).bind fun l => assoc l j
noncomputable def cadastrelaw4_wakes_L : List Code := selI [] (loopsOf cadastrelaw4_wakes_code)
noncomputable def cadastrelaw4_wakes_J : List Code := selI [] (joinsOf cadastrelaw4_wakes_code)
noncomputable def cadastrelaw4_wakes_S : List Code := scopesOf cadastrelaw4_wakes_code
theorem cadastrelaw4_wakes_cok {ρ : Type} (k : Nat) : COK (cadastrelaw4_wakes_cfg (ρ := ρ) k) (cadastrelaw4_wakes_G k) cadastrelaw4_wakes_code :=
  cok_of (tl := []) (tj := []) (tb := []) rfl rfl rfl (nil_all (by kernel_rfl)) (nil_all (by kernel_rfl)) (fun p hp => by cases hp)
noncomputable def cadastrelaw4_wakes_enc (r : Bool) : AV UU := .pv (.bool r)
noncomputable def cadastrelaw4_wakes_dec (v : AV UU) (_ : List (List (AV UU))) : Option Bool :=
asB v fun r0 =>
some r0
theorem cadastrelaw4_wakes_dec_enc (v : AV UU) (b : List (List (AV UU))) (r : Bool) (h : cadastrelaw4_wakes_dec v b = some r) : v = cadastrelaw4_wakes_enc r := by
  unfold cadastrelaw4_wakes_dec at h
  replace h := asB_inv h; obtain ⟨r0, rfl, h⟩ := h
  cases h
  rfl
theorem cadastrelaw4_wakes_eq (k : Nat) : bodyK UX (cadastrelaw4_wakes_cfg k) (cadastrelaw4_wakes_G k) Try.f11 [] [] cadastrelaw4_wakes_dec = cadastrelaw4_wakes k := by kernel_rfl
theorem cadastrelaw4_wakes_con (k : Nat) (r : Bool) (h : cadastrelaw4_wakes k = some r) : Con (X := UX) Try.prog 11 [] [] (cadastrelaw4_wakes_enc r) [] :=
  con_of_body xok tok Try.func11 cadastrelaw4_wakes_body (cadastrelaw4_wakes_gok k) rfl (cadastrelaw4_wakes_cok k) (of_decide_eq_true (by kernel_rfl)) cadastrelaw4_wakes_dec_enc ((cadastrelaw4_wakes_eq k).trans h)
noncomputable def cadastrelaw4_wakes_an {ρ : Type} (k : Nat) : An UX ρ := fun args bx K =>
popN args <|
popN bx <|
(cadastrelaw4_wakes k).bind fun r => K (cadastrelaw4_wakes_enc r) []
theorem cadastrelaw4_wakes_ok {ρ : Type} (k : Nat) : AnsOK Try.prog 11 (cadastrelaw4_wakes_an (ρ := ρ) k) := by
  intro args bx K r h
  unfold cadastrelaw4_wakes_an at h
  replace h := popN_inv h; obtain ⟨rfl, h⟩ := h
  replace h := popN_inv h; obtain ⟨rfl, h⟩ := h
  replace h := bind_inv h
  obtain ⟨x, hx, h⟩ := h
  exact ⟨there_of Try.func11 (by kernel_rfl) cadastrelaw4_wakes_body, _, _, h, cadastrelaw4_wakes_con k x hx⟩
end Go.Proofs.Ytahgjfdndpnpfaa.T
