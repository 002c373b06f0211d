/-
  What the program's functions answer: the printed functions' answers.
-/
import Derived.Test.YtcongmnnacmbmaaKG0
namespace Go.Proofs.Ytcongmnnacmbmaa.K
open Go Go.AX
/-! cadastre/keys.Order -/
noncomputable def keys_Order_code : Code := match Try.f12.body with | some c => c | none => .skip
theorem keys_Order_body : Try.f12.body = some keys_Order_code := by kernel_rfl
noncomputable def keys_Order_G {ρ : Type} (k : Nat) : Ans UX ρ := gk 16 (value_Order_an k) (gnil)
theorem keys_Order_gok {ρ : Type} (k : Nat) : GOK Try.prog (keys_Order_G (ρ := ρ) k) := gok_cons (value_Order_ok k) (gok_nil)
noncomputable def keys_Order_j4_s {ρ : Type} (k : Nat) : Run UX ρ := fun s K =>
popS 0 s.env fun v1 e2 =>
as_l41 v1 fun a0 =>
popS 1 e2 fun v3 e4 =>
as_l41 v3 fun b1 =>
popS 6 e4 fun v5 e6 =>
asI .i64 v5 fun i6 =>
popN e6 <|
popN s.hp <|
keys_Order_j4 k (fun a0 b1 i6 => K (.goto 0) ⟨[(0, .pv (.typ (.l41 a0))), (1, .pv (.typ (.l41 b1))), (6, .pv (.int .i64 i6))], []⟩) (fun t4 => K .ret ⟨[(4, .pv (.int .i64 t4))], []⟩) a0 b1 i6
noncomputable def keys_Order_j8_s {ρ : Type} (k : Nat) : Run UX ρ := fun s K =>
popS 0 s.env fun v1 e2 =>
as_l41 v1 fun a0 =>
popS 1 e2 fun v3 e4 =>
as_l41 v3 fun b1 =>
popN e4 <|
popN s.hp <|
keys_Order_j8 k (fun t4 => K .ret ⟨[(4, .pv (.int .i64 t4))], []⟩) a0 b1
noncomputable def keys_Order_j3_s {ρ : Type} (k : Nat) : Run UX ρ := fun s K =>
popS 0 s.env fun v1 e2 =>
as_l41 v1 fun a0 =>
popS 1 e2 fun v3 e4 =>
as_l41 v3 fun b1 =>
popS 6 e4 fun v5 e6 =>
asI .i64 v5 fun i6 =>
popN e6 <|
popN s.hp <|
keys_Order_j3 k (fun a0 b1 i6 => K (.goto 0) ⟨[(0, .pv (.typ (.l41 a0))), (1, .pv (.typ (.l41 b1))), (6, .pv (.int .i64 i6))], []⟩) (fun t4 => K .ret ⟨[(4, .pv (.int .i64 t4))], []⟩) a0 b1 i6
noncomputable def keys_Order_g0_s {ρ : Type} (k : Nat) : Run UX ρ := fun s K =>
popS 0 s.env fun v1 e2 =>
as_l41 v1 fun a0 =>
popS 1 e2 fun v3 e4 =>
as_l41 v3 fun b1 =>
popS 6 e4 fun v5 e6 =>
asI .i64 v5 fun i6 =>
popN e6 <|
popN s.hp <|
keys_Order_g0 k (fun t4 => K .ret ⟨[(4, .pv (.int .i64 t4))], []⟩) k a0 b1 i6
noncomputable def keys_Order_cfg {ρ : Type} (k : Nat) : Cfg UX ρ where
  live i := (assoc [(0, [0, 1]), (1, [0, 1]), (2, [0, 1]), (3, [0, 1, 6]), (4, [0, 1, 6]), (5, [0, 1, 5, 6]), (6, [0, 1, 6]), (7, [5]), (8, [0, 1]), (9, []), (10, [0, 1]), (11, []), (12, [])] i).getD []
  boxes i := (assoc [(0, []), (1, []), (2, []), (3, []), (4, []), (5, []), (6, []), (7, []), (8, []), (9, []), (10, []), (11, []), (12, [])] i).getD []
  tk i := (assoc [] i).getD []
  n := 43
  labelR l := (assoc [(0, 3)] l).getD 0
  loops := assoc []
  labels := assoc [(0, keys_Order_g0_s k)]
  joins := assoc [(4, keys_Order_j4_s k), (8, keys_Order_j8_s k), (3, keys_Order_j3_s k)]
  xl i e := match e with
    | .nxt => assoc [] i
    | .ret => assoc [(4, ([4], [])), (8, ([4], [])), (3, ([4], [])), (3, ([4], []))] i
    | .exit j => (assoc [] i).bind fun l => assoc l j
    | .goto j => (assoc [(4, [(0, ([0, 1, 6], []))]), (3, [(0, ([0, 1, 6], []))])] i).bind fun l => assoc l j
noncomputable def keys_Order_L : List Code := selI [] (loopsOf keys_Order_code)
noncomputable def keys_Order_J : List Code := selI [4, 8, 3] (joinsOf keys_Order_code)
noncomputable def keys_Order_S : List Code := scopesOf keys_Order_code
theorem keys_Order_j3_eq0 {ρ : Type} (k : Nat) (K : Ex → St UU → Option ρ) (a0 : List S41) (b1 : List S41) (i6 : Int) : exec UX (keys_Order_cfg k) (keys_Order_G k) (keys_Order_J.getD 0 .skip) ⟨[(0, .pv (.typ (.l41 a0))), (1, .pv (.typ (.l41 b1))), (6, .pv (.int .i64 i6))], []⟩ (nrmK UX (keys_Order_cfg k) 3 K) = keys_Order_j3 k (fun a0 b1 i6 => K (.goto 0) ⟨[(0, .pv (.typ (.l41 a0))), (1, .pv (.typ (.l41 b1))), (6, .pv (.int .i64 i6))], []⟩) (fun t4 => K .ret ⟨[(4, .pv (.int .i64 t4))], []⟩) a0 b1 i6 := by kernel_rfl
theorem keys_Order_j3_ok0 {ρ : Type} (k : Nat) : JoinOK UX (keys_Order_cfg (ρ := ρ) k) (keys_Order_G k) (keys_Order_J.getD 0 .skip) 3 (keys_Order_j3_s k) := by
  intro s K r h
  obtain ⟨env, hp⟩ := s
  unfold keys_Order_j3_s at h
  replace h := popS_inv h; obtain ⟨v1, e2, rfl, h⟩ := h
  replace h := as_l41_inv h; obtain ⟨a0, rfl, h⟩ := h
  replace h := popS_inv h; obtain ⟨v3, e4, rfl, h⟩ := h
  replace h := as_l41_inv h; obtain ⟨b1, rfl, h⟩ := h
  replace h := popS_inv h; obtain ⟨v5, e6, rfl, h⟩ := h
  replace h := asI_inv h; obtain ⟨i6, rfl, h⟩ := h
  replace h := popN_inv h; obtain ⟨rfl, h⟩ := h
  replace h := popN_inv h; obtain ⟨rfl, h⟩ := h
  exact (keys_Order_j3_eq0 k K a0 b1 i6).trans h
theorem keys_Order_j8_eq1 {ρ : Type} (k : Nat) (K : Ex → St UU → Option ρ) (a0 : List S41) (b1 : List S41) : exec UX (keys_Order_cfg k) (keys_Order_G k) (keys_Order_J.getD 1 .skip) ⟨[(0, .pv (.typ (.l41 a0))), (1, .pv (.typ (.l41 b1)))], []⟩ (nrmK UX (keys_Order_cfg k) 8 K) = keys_Order_j8 k (fun t4 => K .ret ⟨[(4, .pv (.int .i64 t4))], []⟩) a0 b1 := by kernel_rfl
theorem keys_Order_j8_ok1 {ρ : Type} (k : Nat) : JoinOK UX (keys_Order_cfg (ρ := ρ) k) (keys_Order_G k) (keys_Order_J.getD 1 .skip) 8 (keys_Order_j8_s k) := by
  intro s K r h
  obtain ⟨env, hp⟩ := s
  unfold keys_Order_j8_s at h
  replace h := popS_inv h; obtain ⟨v1, e2, rfl, h⟩ := h
  replace h := as_l41_inv h; obtain ⟨a0, rfl, h⟩ := h
  replace h := popS_inv h; obtain ⟨v3, e4, rfl, h⟩ := h
  replace h := as_l41_inv h; obtain ⟨b1, rfl, h⟩ := h
  replace h := popN_inv h; obtain ⟨rfl, h⟩ := h
  replace h := popN_inv h; obtain ⟨rfl, h⟩ := h
  exact (keys_Order_j8_eq1 k K a0 b1).trans h
theorem keys_Order_j4_eq2 {ρ : Type} (k : Nat) (K : Ex → St UU → Option ρ) (a0 : List S41) (b1 : List S41) (i6 : Int) : exec UX (keys_Order_cfg k) (keys_Order_G k) (keys_Order_J.getD 2 .skip) ⟨[(0, .pv (.typ (.l41 a0))), (1, .pv (.typ (.l41 b1))), (6, .pv (.int .i64 i6))], []⟩ (nrmK UX (keys_Order_cfg k) 4 K) = keys_Order_j4 k (fun a0 b1 i6 => K (.goto 0) ⟨[(0, .pv (.typ (.l41 a0))), (1, .pv (.typ (.l41 b1))), (6, .pv (.int .i64 i6))], []⟩) (fun t4 => K .ret ⟨[(4, .pv (.int .i64 t4))], []⟩) a0 b1 i6 := by kernel_rfl
theorem keys_Order_j4_ok2 {ρ : Type} (k : Nat) : JoinOK UX (keys_Order_cfg (ρ := ρ) k) (keys_Order_G k) (keys_Order_J.getD 2 .skip) 4 (keys_Order_j4_s k) := by
  intro s K r h
  obtain ⟨env, hp⟩ := s
  unfold keys_Order_j4_s at h
  replace h := popS_inv h; obtain ⟨v1, e2, rfl, h⟩ := h
  replace h := as_l41_inv h; obtain ⟨a0, rfl, h⟩ := h
  replace h := popS_inv h; obtain ⟨v3, e4, rfl, h⟩ := h
  replace h := as_l41_inv h; obtain ⟨b1, rfl, h⟩ := h
  replace h := popS_inv h; obtain ⟨v5, e6, rfl, h⟩ := h
  replace h := asI_inv h; obtain ⟨i6, rfl, h⟩ := h
  replace h := popN_inv h; obtain ⟨rfl, h⟩ := h
  replace h := popN_inv h; obtain ⟨rfl, h⟩ := h
  exact (keys_Order_j4_eq2 k K a0 b1 i6).trans h
noncomputable def keys_Order_g0_f0 {ρ : Type} (k : Nat) : Run UX ρ := (suff UX (keys_Order_cfg k) (keys_Order_G k) (keys_Order_S.getD 0 .skip) 0).getD fun _ _ => none
theorem keys_Order_g0_eq0 {ρ : Type} (k : Nat) (K : Ex → St UU → Option ρ) : ∀ (n : Nat) (v : (List S41) × (List S41) × Int), scopeN UX (fun l s => s.at (keys_Order_cfg (ρ := ρ) k).live (keys_Order_cfg (ρ := ρ) k).boxes (some ((keys_Order_cfg (ρ := ρ) k).labelR l))) (suff UX (keys_Order_cfg k) (keys_Order_G k) (keys_Order_S.getD 0 .skip)) (fun l => ((keys_Order_cfg (ρ := ρ) k).labels l).isSome) n (keys_Order_g0_f0 k) ⟨[(0, .pv (.typ (.l41 v.1))), (1, .pv (.typ (.l41 v.2.1))), (6, .pv (.int .i64 v.2.2))], []⟩ (nrmK UX (keys_Order_cfg k) ((keys_Order_cfg (ρ := ρ) k).labelR 0) K) = keys_Order_g0 k (fun t4 => K .ret ⟨[(4, .pv (.int .i64 t4))], []⟩) n v.1 v.2.1 v.2.2 :=
  scope_rec (X := UX) (fun _ => keys_Order_g0_f0 k) (fun v => ⟨[(0, .pv (.typ (.l41 v.1))), (1, .pv (.typ (.l41 v.2.1))), (6, .pv (.int .i64 v.2.2))], []⟩) (fun rec v => keys_Order_g0_b k (fun t4 => K .ret ⟨[(4, .pv (.int .i64 t4))], []⟩) (fun a0 b1 i6 => rec (a0, b1, i6)) v.1 v.2.1 v.2.2) (fun n v => keys_Order_g0 k (fun t4 => K .ret ⟨[(4, .pv (.int .i64 t4))], []⟩) n v.1 v.2.1 v.2.2) (fun n v => by kernel_rfl) (fun _ => rfl) (fun _ _ => rfl)
theorem keys_Order_g0_ok0 {ρ : Type} (k : Nat) : LabOK UX (keys_Order_cfg (ρ := ρ) k) (keys_Order_G k) (keys_Order_S.getD 0 .skip) 0 (keys_Order_g0_s k) := by
  intro f hf s K r h
  have hf : keys_Order_g0_f0 k = f := by unfold keys_Order_g0_f0; rw [hf]; rfl
  subst hf
  obtain ⟨env, hp⟩ := s
  unfold keys_Order_g0_s at h
  replace h := popS_inv h; obtain ⟨v1, e2, rfl, h⟩ := h
  replace h := as_l41_inv h; obtain ⟨a0, rfl, h⟩ := h
  replace h := popS_inv h; obtain ⟨v3, e4, rfl, h⟩ := h
  replace h := as_l41_inv h; obtain ⟨b1, rfl, h⟩ := h
  replace h := popS_inv h; obtain ⟨v5, e6, rfl, h⟩ := h
  replace h := asI_inv h; obtain ⟨i6, rfl, h⟩ := h
  replace h := popN_inv h; obtain ⟨rfl, h⟩ := h
  replace h := popN_inv h; obtain ⟨rfl, h⟩ := h
  exact ⟨k, (keys_Order_g0_eq0 k K k (a0, b1, i6)).trans h⟩
theorem keys_Order_cok {ρ : Type} (k : Nat) : COK (keys_Order_cfg (ρ := ρ) k) (keys_Order_G k) keys_Order_code :=
  cok_of (tl := []) (tj := [(4, keys_Order_j4_s k), (8, keys_Order_j8_s k), (3, keys_Order_j3_s k)]) (tb := [(0, keys_Order_g0_s k)]) rfl rfl rfl (nil_all (by kernel_rfl)) (all_nth 3 (by kernel_rfl) ⟨join_case (by kernel_rfl) rfl (keys_Order_j4_ok2 k), join_case (by kernel_rfl) rfl (keys_Order_j8_ok1 k), join_case (by kernel_rfl) rfl (keys_Order_j3_ok0 k), trivial⟩) (fun p hp => by
    simp only [List.mem_cons, List.not_mem_nil, or_false] at hp
    subst hp
    · exact all_nth 1 (by kernel_rfl) ⟨keys_Order_g0_ok0 k, trivial⟩)
noncomputable def keys_Order_enc (r : Int) : AV UU := .pv (.int .i64 r)
noncomputable def keys_Order_dec (v : AV UU) (_ : List (List (AV UU))) : Option Int :=
asI .i64 v fun r0 =>
some r0
theorem keys_Order_dec_enc (v : AV UU) (b : List (List (AV UU))) (r : Int) (h : keys_Order_dec v b = some r) : v = keys_Order_enc r := by
  unfold keys_Order_dec at h
  replace h := asI_inv h; obtain ⟨r0, rfl, h⟩ := h
  cases h
  rfl
theorem keys_Order_eq (k : Nat) (a0 : List S41) (b1 : List S41) : bodyK UX (keys_Order_cfg k) (keys_Order_G k) Try.f12 [.pv (.typ (.l41 a0)), .pv (.typ (.l41 b1))] [] keys_Order_dec = keys_Order k a0 b1 := by kernel_rfl
theorem keys_Order_con (k : Nat) (a0 : List S41) (b1 : List S41) (r : Int) (h : keys_Order k a0 b1 = some r) : Con (X := UX) Try.prog 12 [.pv (.typ (.l41 a0)), .pv (.typ (.l41 b1))] [] (keys_Order_enc r) [] :=
  con_of_body xok tok Try.func12 keys_Order_body (keys_Order_gok k) rfl (keys_Order_cok k) (of_decide_eq_true (by kernel_rfl)) keys_Order_dec_enc ((keys_Order_eq k a0 b1).trans h)
noncomputable def keys_Order_an {ρ : Type} (k : Nat) : An UX ρ := fun args bx K =>
popA args fun v1 a2 =>
as_l41 v1 fun a0 =>
popA a2 fun v3 a4 =>
as_l41 v3 fun b1 =>
popN a4 <|
popN bx <|
(keys_Order k a0 b1).bind fun r => K (keys_Order_enc r) []
theorem keys_Order_ok {ρ : Type} (k : Nat) : AnsOK Try.prog 12 (keys_Order_an (ρ := ρ) k) := by
  intro args bx K r h
  unfold keys_Order_an at h
  replace h := popA_inv h; obtain ⟨v1, a2, rfl, h⟩ := h
  replace h := as_l41_inv h; obtain ⟨a0, rfl, h⟩ := h
  replace h := popA_inv h; obtain ⟨v3, a4, rfl, h⟩ := h
  replace h := as_l41_inv h; obtain ⟨b1, rfl, h⟩ := h
  replace h := popN_inv h; obtain ⟨rfl, h⟩ := h
  replace h := popN_inv h; obtain ⟨rfl, h⟩ := h
  replace h := bind_inv h
  obtain ⟨x, hx, h⟩ := h
  exact ⟨there_of Try.func12 (by kernel_rfl) keys_Order_body, _, _, h, keys_Order_con k a0 b1 x hx⟩

/-! cadastre/keys.Find$1 -/
noncomputable def keys_Find_1_r1_r2_code : Code := match Try.f14.body with | some c => c | none => .skip
theorem keys_Find_1_r1_r2_body : Try.f14.body = some keys_Find_1_r1_r2_code := by kernel_rfl
noncomputable def keys_Find_1_r1_r2_G {ρ : Type} (k : Nat) : Ans UX ρ := gk 12 (keys_Order_an k) (gnil)
theorem keys_Find_1_r1_r2_gok {ρ : Type} (k : Nat) : GOK Try.prog (keys_Find_1_r1_r2_G (ρ := ρ) k) := gok_cons (keys_Order_ok k) (gok_nil)
noncomputable def keys_Find_1_r1_r2_cfg {ρ : Type} (k : Nat) : Cfg UX ρ where
  live i := (assoc [(0, [0, 1, 2]), (1, [0, 1, 2])] i).getD []
  boxes i := (assoc [(0, []), (1, [])] i).getD []
  tk i := (assoc [] i).getD []
  n := 12
  labelR l := (assoc [] l).getD 0
  loops := assoc []
  labels := assoc []
  joins := assoc []
  xl i e := match e with
    | .nxt => assoc [] i
    | .ret => assoc [] i
    | .exit j => (assoc [] i).bind fun l => assoc l j
    | .goto j => (assoc [] i).bind fun l => assoc l j
noncomputable def keys_Find_1_r1_r2_L : List Code := selI [] (loopsOf keys_Find_1_r1_r2_code)
noncomputable def keys_Find_1_r1_r2_J : List Code := selI [] (joinsOf keys_Find_1_r1_r2_code)
noncomputable def keys_Find_1_r1_r2_S : List Code := scopesOf keys_Find_1_r1_r2_code
theorem keys_Find_1_r1_r2_cok {ρ : Type} (k : Nat) : COK (keys_Find_1_r1_r2_cfg (ρ := ρ) k) (keys_Find_1_r1_r2_G k) keys_Find_1_r1_r2_code :=
  cok_of (tl := []) (tj := []) (tb := []) rfl rfl rfl (nil_all (by kernel_rfl)) (nil_all (by kernel_rfl)) (fun p hp => by cases hp)
noncomputable def keys_Find_1_r1_r2_enc (r : Bool) : AV UU := .pv (.bool r)
noncomputable def keys_Find_1_r1_r2_dec (v : AV UU) (_ : List (List (AV UU))) : Option Bool :=
asB v fun r0 =>
some r0
theorem keys_Find_1_r1_r2_dec_enc (v : AV UU) (b : List (List (AV UU))) (r : Bool) (h : keys_Find_1_r1_r2_dec v b = some r) : v = keys_Find_1_r1_r2_enc r := by
  unfold keys_Find_1_r1_r2_dec at h
  replace h := asB_inv h; obtain ⟨r0, rfl, h⟩ := h
  cases h
  rfl
theorem keys_Find_1_r1_r2_eq (k : Nat) (i0 : Int) (t1 : List (List S41)) (t2 : List S41) : bodyK UX (keys_Find_1_r1_r2_cfg k) (keys_Find_1_r1_r2_G k) Try.f14 [.pv (.int .i64 i0), .ref (.typ (.ll41 t1)), .ref (.typ (.l41 t2))] [] keys_Find_1_r1_r2_dec = keys_Find_1_r1_r2 k i0 t1 t2 := by kernel_rfl
theorem keys_Find_1_r1_r2_con (k : Nat) (i0 : Int) (t1 : List (List S41)) (t2 : List S41) (r : Bool) (h : keys_Find_1_r1_r2 k i0 t1 t2 = some r) : Con (X := UX) Try.prog 14 [.pv (.int .i64 i0), .ref (.typ (.ll41 t1)), .ref (.typ (.l41 t2))] [] (keys_Find_1_r1_r2_enc r) [] :=
  con_of_body xok tok Try.func14 keys_Find_1_r1_r2_body (keys_Find_1_r1_r2_gok k) rfl (keys_Find_1_r1_r2_cok k) (of_decide_eq_true (by kernel_rfl)) keys_Find_1_r1_r2_dec_enc ((keys_Find_1_r1_r2_eq k i0 t1 t2).trans h)
noncomputable def keys_Find_1_r1_r2_an {ρ : Type} (k : Nat) : An UX ρ := fun args bx K =>
popA args fun v1 a2 =>
asI .i64 v1 fun i0 =>
popA a2 fun v3 a4 =>
asR v3 fun p5 =>
as_ll41 (.pv p5) fun t1 =>
popA a4 fun v6 a7 =>
asR v6 fun p8 =>
as_l41 (.pv p8) fun t2 =>
popN a7 <|
popN bx <|
(keys_Find_1_r1_r2 k i0 t1 t2).bind fun r => K (keys_Find_1_r1_r2_enc r) []
theorem keys_Find_1_r1_r2_ok {ρ : Type} (k : Nat) : AnsOK Try.prog 14 (keys_Find_1_r1_r2_an (ρ := ρ) k) := by
  intro args bx K r h
  unfold keys_Find_1_r1_r2_an at h
  replace h := popA_inv h; obtain ⟨v1, a2, rfl, h⟩ := h
  replace h := asI_inv h; obtain ⟨i0, rfl, h⟩ := h
  replace h := popA_inv h; obtain ⟨v3, a4, rfl, h⟩ := h
  replace h := asR_inv h; obtain ⟨p5, rfl, h⟩ := h
  replace h := as_ll41_inv h; obtain ⟨t1, e, h⟩ := h; cases e
  replace h := popA_inv h; obtain ⟨v6, a7, rfl, h⟩ := h
  replace h := asR_inv h; obtain ⟨p8, rfl, h⟩ := h
  replace h := as_l41_inv h; obtain ⟨t2, e, h⟩ := h; cases e
  replace h := popN_inv h; obtain ⟨rfl, h⟩ := h
  replace h := popN_inv h; obtain ⟨rfl, h⟩ := h
  replace h := bind_inv h
  obtain ⟨x, hx, h⟩ := h
  exact ⟨there_of Try.func14 (by kernel_rfl) keys_Find_1_r1_r2_body, _, _, h, keys_Find_1_r1_r2_con k i0 t1 t2 x hx⟩

/-! cadastre/keys.Place -/
noncomputable def keys_Place_f14_code : Code := match Try.f13.body with | some c => c | none => .skip
theorem keys_Place_f14_body : Try.f13.body = some keys_Place_f14_code := by kernel_rfl
noncomputable def keys_Place_f14_G {ρ : Type} (k : Nat) : Ans UX ρ := gk 14 (keys_Find_1_r1_r2_an k) (gnil)
theorem keys_Place_f14_gok {ρ : Type} (k : Nat) : GOK Try.prog (keys_Place_f14_G (ρ := ρ) k) := gok_cons (keys_Find_1_r1_r2_ok k) (gok_nil)
noncomputable def keys_Place_f14_j2_s {ρ : Type} (k : Nat) : Run UX ρ := fun s K =>
popS 1 s.env fun v1 e2 =>
asF 14 v1 fun fa3 fb4 =>
popN fa3 <|
popA fb4 fun c5 fb6 =>
asSR c5 fun p7 =>
as_ll41 (.pv p7) fun below1_c0 =>
popA fb6 fun c8 fb9 =>
asSR c8 fun p10 =>
as_l41 (.pv p10) fun below1_c1 =>
popN fb9 <|
popS 5 e2 fun v11 e12 =>
asI .i64 v11 fun lo5 =>
popS 6 e12 fun v13 e14 =>
asI .i64 v13 fun hi6 =>
popN e14 <|
popN s.hp <|
keys_Place_f14_j2 k (fun t4 => K .ret ⟨[(4, .pv (.int .i64 t4))], []⟩) (fun below1_c0 below1_c1 lo5 hi6 => K (.goto 0) ⟨[(1, .fn 14 [] [.ref (.typ (.ll41 below1_c0)), .ref (.typ (.l41 below1_c1))]), (5, .pv (.int .i64 lo5)), (6, .pv (.int .i64 hi6))], []⟩) below1_c0 below1_c1 lo5 hi6
noncomputable def keys_Place_f14_g0_s {ρ : Type} (k : Nat) : Run UX ρ := fun s K =>
popS 1 s.env fun v1 e2 =>
asF 14 v1 fun fa3 fb4 =>
popN fa3 <|
popA fb4 fun c5 fb6 =>
asSR c5 fun p7 =>
as_ll41 (.pv p7) fun below1_c0 =>
popA fb6 fun c8 fb9 =>
asSR c8 fun p10 =>
as_l41 (.pv p10) fun below1_c1 =>
popN fb9 <|
popS 5 e2 fun v11 e12 =>
asI .i64 v11 fun lo5 =>
popS 6 e12 fun v13 e14 =>
asI .i64 v13 fun hi6 =>
popN e14 <|
popN s.hp <|
keys_Place_f14_g0 k (fun t4 => K .ret ⟨[(4, .pv (.int .i64 t4))], []⟩) k below1_c0 below1_c1 lo5 hi6
noncomputable def keys_Place_f14_cfg {ρ : Type} (k : Nat) : Cfg UX ρ where
  live i := (assoc [(0, [0, 1]), (1, [0, 1]), (2, [1, 5, 6]), (3, [5]), (4, [1, 5, 6]), (5, [1, 5, 6, 7]), (6, [1, 6, 7]), (7, [1, 5, 7])] i).getD []
  boxes i := (assoc [(0, []), (1, []), (2, []), (3, []), (4, []), (5, []), (6, []), (7, [])] i).getD []
  tk i := (assoc [] i).getD []
  n := 23
  labelR l := (assoc [(0, 2)] l).getD 0
  loops := assoc []
  labels := assoc [(0, keys_Place_f14_g0_s k)]
  joins := assoc [(2, keys_Place_f14_j2_s k)]
  xl i e := match e with
    | .nxt => assoc [] i
    | .ret => assoc [(2, ([4], [])), (2, ([4], []))] i
    | .exit j => (assoc [] i).bind fun l => assoc l j
    | .goto j => (assoc [(2, [(0, ([1, 5, 6], []))])] i).bind fun l => assoc l j
noncomputable def keys_Place_f14_L : List Code := selI [] (loopsOf keys_Place_f14_code)
noncomputable def keys_Place_f14_J : List Code := selI [2] (joinsOf keys_Place_f14_code)
noncomputable def keys_Place_f14_S : List Code := scopesOf keys_Place_f14_code
theorem keys_Place_f14_j2_eq0 {ρ : Type} (k : Nat) (K : Ex → St UU → Option ρ) (below1_c0 : List (List S41)) (below1_c1 : List S41) (lo5 : Int) (hi6 : Int) : exec UX (keys_Place_f14_cfg k) (keys_Place_f14_G k) (keys_Place_f14_J.getD 0 .skip) ⟨[(1, .fn 14 [] [.ref (.typ (.ll41 below1_c0)), .ref (.typ (.l41 below1_c1))]), (5, .pv (.int .i64 lo5)), (6, .pv (.int .i64 hi6))], []⟩ (nrmK UX (keys_Place_f14_cfg k) 2 K) = keys_Place_f14_j2 k (fun t4 => K .ret ⟨[(4, .pv (.int .i64 t4))], []⟩) (fun below1_c0 below1_c1 lo5 hi6 => K (.goto 0) ⟨[(1, .fn 14 [] [.ref (.typ (.ll41 below1_c0)), .ref (.typ (.l41 below1_c1))]), (5, .pv (.int .i64 lo5)), (6, .pv (.int .i64 hi6))], []⟩) below1_c0 below1_c1 lo5 hi6 := by kernel_rfl
theorem keys_Place_f14_j2_ok0 {ρ : Type} (k : Nat) : JoinOK UX (keys_Place_f14_cfg (ρ := ρ) k) (keys_Place_f14_G k) (keys_Place_f14_J.getD 0 .skip) 2 (keys_Place_f14_j2_s k) := by
  intro s K r h
  obtain ⟨env, hp⟩ := s
  unfold keys_Place_f14_j2_s at h
  replace h := popS_inv h; obtain ⟨v1, e2, rfl, h⟩ := h
  replace h := asF_inv h; obtain ⟨fa3, fb4, rfl, h⟩ := h
  replace h := popN_inv h; obtain ⟨rfl, h⟩ := h
  replace h := popA_inv h; obtain ⟨c5, fb6, rfl, h⟩ := h
  replace h := asSR_inv h; obtain ⟨p7, rfl, h⟩ := h
  replace h := as_ll41_inv h; obtain ⟨below1_c0, e, h⟩ := h; cases e
  replace h := popA_inv h; obtain ⟨c8, fb9, rfl, h⟩ := h
  replace h := asSR_inv h; obtain ⟨p10, rfl, h⟩ := h
  replace h := as_l41_inv h; obtain ⟨below1_c1, e, h⟩ := h; cases e
  replace h := popN_inv h; obtain ⟨rfl, h⟩ := h
  replace h := popS_inv h; obtain ⟨v11, e12, rfl, h⟩ := h
  replace h := asI_inv h; obtain ⟨lo5, rfl, h⟩ := h
  replace h := popS_inv h; obtain ⟨v13, e14, rfl, h⟩ := h
  replace h := asI_inv h; obtain ⟨hi6, rfl, h⟩ := h
  replace h := popN_inv h; obtain ⟨rfl, h⟩ := h
  replace h := popN_inv h; obtain ⟨rfl, h⟩ := h
  exact (keys_Place_f14_j2_eq0 k K below1_c0 below1_c1 lo5 hi6).trans h
noncomputable def keys_Place_f14_g0_f0 {ρ : Type} (k : Nat) : Run UX ρ := (suff UX (keys_Place_f14_cfg k) (keys_Place_f14_G k) (keys_Place_f14_S.getD 0 .skip) 0).getD fun _ _ => none
theorem keys_Place_f14_g0_eq0 {ρ : Type} (k : Nat) (K : Ex → St UU → Option ρ) : ∀ (n : Nat) (v : (List (List S41)) × (List S41) × Int × Int), scopeN UX (fun l s => s.at (keys_Place_f14_cfg (ρ := ρ) k).live (keys_Place_f14_cfg (ρ := ρ) k).boxes (some ((keys_Place_f14_cfg (ρ := ρ) k).labelR l))) (suff UX (keys_Place_f14_cfg k) (keys_Place_f14_G k) (keys_Place_f14_S.getD 0 .skip)) (fun l => ((keys_Place_f14_cfg (ρ := ρ) k).labels l).isSome) n (keys_Place_f14_g0_f0 k) ⟨[(1, .fn 14 [] [.ref (.typ (.ll41 v.1)), .ref (.typ (.l41 v.2.1))]), (5, .pv (.int .i64 v.2.2.1)), (6, .pv (.int .i64 v.2.2.2))], []⟩ (nrmK UX (keys_Place_f14_cfg k) ((keys_Place_f14_cfg (ρ := ρ) k).labelR 0) K) = keys_Place_f14_g0 k (fun t4 => K .ret ⟨[(4, .pv (.int .i64 t4))], []⟩) n v.1 v.2.1 v.2.2.1 v.2.2.2 :=
  scope_rec (X := UX) (fun _ => keys_Place_f14_g0_f0 k) (fun v => ⟨[(1, .fn 14 [] [.ref (.typ (.ll41 v.1)), .ref (.typ (.l41 v.2.1))]), (5, .pv (.int .i64 v.2.2.1)), (6, .pv (.int .i64 v.2.2.2))], []⟩) (fun rec v => keys_Place_f14_g0_b k (fun t4 => K .ret ⟨[(4, .pv (.int .i64 t4))], []⟩) (fun below1_c0 below1_c1 lo5 hi6 => rec (below1_c0, below1_c1, lo5, hi6)) v.1 v.2.1 v.2.2.1 v.2.2.2) (fun n v => keys_Place_f14_g0 k (fun t4 => K .ret ⟨[(4, .pv (.int .i64 t4))], []⟩) n v.1 v.2.1 v.2.2.1 v.2.2.2) (fun n v => by kernel_rfl) (fun _ => rfl) (fun _ _ => rfl)
theorem keys_Place_f14_g0_ok0 {ρ : Type} (k : Nat) : LabOK UX (keys_Place_f14_cfg (ρ := ρ) k) (keys_Place_f14_G k) (keys_Place_f14_S.getD 0 .skip) 0 (keys_Place_f14_g0_s k) := by
  intro f hf s K r h
  have hf : keys_Place_f14_g0_f0 k = f := by unfold keys_Place_f14_g0_f0; rw [hf]; rfl
  subst hf
  obtain ⟨env, hp⟩ := s
  unfold keys_Place_f14_g0_s at h
  replace h := popS_inv h; obtain ⟨v1, e2, rfl, h⟩ := h
  replace h := asF_inv h; obtain ⟨fa3, fb4, rfl, h⟩ := h
  replace h := popN_inv h; obtain ⟨rfl, h⟩ := h
  replace h := popA_inv h; obtain ⟨c5, fb6, rfl, h⟩ := h
  replace h := asSR_inv h; obtain ⟨p7, rfl, h⟩ := h
  replace h := as_ll41_inv h; obtain ⟨below1_c0, e, h⟩ := h; cases e
  replace h := popA_inv h; obtain ⟨c8, fb9, rfl, h⟩ := h
  replace h := asSR_inv h; obtain ⟨p10, rfl, h⟩ := h
  replace h := as_l41_inv h; obtain ⟨below1_c1, e, h⟩ := h; cases e
  replace h := popN_inv h; obtain ⟨rfl, h⟩ := h
  replace h := popS_inv h; obtain ⟨v11, e12, rfl, h⟩ := h
  replace h := asI_inv h; obtain ⟨lo5, rfl, h⟩ := h
  replace h := popS_inv h; obtain ⟨v13, e14, rfl, h⟩ := h
  replace h := asI_inv h; obtain ⟨hi6, rfl, h⟩ := h
  replace h := popN_inv h; obtain ⟨rfl, h⟩ := h
  replace h := popN_inv h; obtain ⟨rfl, h⟩ := h
  exact ⟨k, (keys_Place_f14_g0_eq0 k K k (below1_c0, below1_c1, lo5, hi6)).trans h⟩
theorem keys_Place_f14_cok {ρ : Type} (k : Nat) : COK (keys_Place_f14_cfg (ρ := ρ) k) (keys_Place_f14_G k) keys_Place_f14_code :=
  cok_of (tl := []) (tj := [(2, keys_Place_f14_j2_s k)]) (tb := [(0, keys_Place_f14_g0_s k)]) rfl rfl rfl (nil_all (by kernel_rfl)) (all_nth 1 (by kernel_rfl) ⟨join_case (by kernel_rfl) rfl (keys_Place_f14_j2_ok0 k), trivial⟩) (fun p hp => by
    simp only [List.mem_cons, List.not_mem_nil, or_false] at hp
    subst hp
    · exact all_nth 1 (by kernel_rfl) ⟨keys_Place_f14_g0_ok0 k, trivial⟩)
noncomputable def keys_Place_f14_enc (r : Int) : AV UU := .pv (.int .i64 r)
noncomputable def keys_Place_f14_dec (v : AV UU) (_ : List (List (AV UU))) : Option Int :=
asI .i64 v fun r0 =>
some r0
theorem keys_Place_f14_dec_enc (v : AV UU) (b : List (List (AV UU))) (r : Int) (h : keys_Place_f14_dec v b = some r) : v = keys_Place_f14_enc r := by
  unfold keys_Place_f14_dec at h
  replace h := asI_inv h; obtain ⟨r0, rfl, h⟩ := h
  cases h
  rfl
theorem keys_Place_f14_eq (k : Nat) (n0 : Int) (below1_0 : List (List S41)) (below1_1 : List S41) : bodyK UX (keys_Place_f14_cfg k) (keys_Place_f14_G k) Try.f13 [.pv (.int .i64 n0), .fn 14 [] [.ref (.typ (.ll41 below1_0)), .ref (.typ (.l41 below1_1))]] [] keys_Place_f14_dec = keys_Place_f14 k n0 below1_0 below1_1 := by kernel_rfl
theorem keys_Place_f14_con (k : Nat) (n0 : Int) (below1_0 : List (List S41)) (below1_1 : List S41) (r : Int) (h : keys_Place_f14 k n0 below1_0 below1_1 = some r) : Con (X := UX) Try.prog 13 [.pv (.int .i64 n0), .fn 14 [] [.ref (.typ (.ll41 below1_0)), .ref (.typ (.l41 below1_1))]] [] (keys_Place_f14_enc r) [] :=
  con_of_body xok tok Try.func13 keys_Place_f14_body (keys_Place_f14_gok k) rfl (keys_Place_f14_cok k) (of_decide_eq_true (by kernel_rfl)) keys_Place_f14_dec_enc ((keys_Place_f14_eq k n0 below1_0 below1_1).trans h)
noncomputable def keys_Place_f14_an {ρ : Type} (k : Nat) : An UX ρ := fun args bx K =>
popA args fun v1 a2 =>
asI .i64 v1 fun n0 =>
popA a2 fun v3 a4 =>
asF 14 v3 fun fa5 fb6 =>
popN fa5 <|
popA fb6 fun c7 fb8 =>
asSR c7 fun p9 =>
as_ll41 (.pv p9) fun below1_0 =>
popA fb8 fun c10 fb11 =>
asSR c10 fun p12 =>
as_l41 (.pv p12) fun below1_1 =>
popN fb11 <|
popN a4 <|
popN bx <|
(keys_Place_f14 k n0 below1_0 below1_1).bind fun r => K (keys_Place_f14_enc r) []
theorem keys_Place_f14_ok {ρ : Type} (k : Nat) : AnsOK Try.prog 13 (keys_Place_f14_an (ρ := ρ) k) := by
  intro args bx K r h
  unfold keys_Place_f14_an at h
  replace h := popA_inv h; obtain ⟨v1, a2, rfl, h⟩ := h
  replace h := asI_inv h; obtain ⟨n0, rfl, h⟩ := h
  replace h := popA_inv h; obtain ⟨v3, a4, rfl, h⟩ := h
  replace h := asF_inv h; obtain ⟨fa5, fb6, rfl, h⟩ := h
  replace h := popN_inv h; obtain ⟨rfl, h⟩ := h
  replace h := popA_inv h; obtain ⟨c7, fb8, rfl, h⟩ := h
  replace h := asSR_inv h; obtain ⟨p9, rfl, h⟩ := h
  replace h := as_ll41_inv h; obtain ⟨below1_0, e, h⟩ := h; cases e
  replace h := popA_inv h; obtain ⟨c10, fb11, rfl, h⟩ := h
  replace h := asSR_inv h; obtain ⟨p12, rfl, h⟩ := h
  replace h := as_l41_inv h; obtain ⟨below1_1, e, h⟩ := h; cases e
  replace h := popN_inv h; obtain ⟨rfl, h⟩ := h
  replace h := popN_inv h; obtain ⟨rfl, h⟩ := h
  replace h := popN_inv h; obtain ⟨rfl, h⟩ := h
  replace h := bind_inv h
  obtain ⟨x, hx, h⟩ := h
  exact ⟨there_of Try.func13 (by kernel_rfl) keys_Place_f14_body, _, _, h, keys_Place_f14_con k n0 below1_0 below1_1 x hx⟩

/-! cadastre/keys.Find -/
noncomputable def keys_Find_code : Code := match Try.f5.body with | some c => c | none => .skip
theorem keys_Find_body : Try.f5.body = some keys_Find_code := by kernel_rfl
noncomputable def keys_Find_G {ρ : Type} (k : Nat) : Ans UX ρ := gk 11 (keys_Check_an k) (gk 12 (keys_Order_an k) (gk 13 (keys_Place_f14_an k) (gnil)))
theorem keys_Find_gok {ρ : Type} (k : Nat) : GOK Try.prog (keys_Find_G (ρ := ρ) k) := gok_cons (keys_Check_ok k) (gok_cons (keys_Order_ok k) (gok_cons (keys_Place_f14_ok k) (gok_nil)))
noncomputable def keys_Find_l5_s {ρ : Type} (k : Nat) : Run UX ρ := fun s K =>
popS 2 s.env fun v1 e2 =>
asP 2 0 v1 <|
popS 3 e2 fun v3 e4 =>
asP 3 0 v3 <|
popS 7 e4 fun v5 e6 =>
asI .i64 v5 fun i7 =>
popN e6 <|
popB 2 s.hp fun c7 e8 =>
popA c7 fun v9 c10 =>
as_ll41 v9 fun z11 =>
popN c10 <|
popB 3 e8 fun c12 e13 =>
popA c12 fun v14 c15 =>
as_l41 v14 fun z16 =>
popN c15 <|
popN e13 <|
keys_Find_l5 k (fun t4 t5 => K .ret ⟨[(4, .pv (.int .i64 t4)), (5, .pv (.int .i64 t5))], []⟩) (fun l2_0 k3_0 => K (.exit 0) ⟨[(2, .ptr 2 0), (3, .ptr 3 0)], [(2, [.pv (.typ (.ll41 l2_0))]), (3, [.pv (.typ (.l41 k3_0))])]⟩) k i7 z11 z16
noncomputable def keys_Find_cfg {ρ : Type} (k : Nat) : Cfg UX ρ where
  live i := (assoc [(0, [0, 1]), (1, [2, 3]), (2, [2, 3, 6]), (3, [6]), (4, [2, 3]), (5, [2, 3, 7]), (6, [2, 3, 7]), (7, [2, 3, 7]), (8, []), (9, [2, 3])] i).getD []
  boxes i := (assoc [(0, []), (1, [2, 3]), (2, [2, 3]), (3, []), (4, [2, 3]), (5, [2, 3]), (6, [2, 3]), (7, [2, 3]), (8, []), (9, [2, 3])] i).getD []
  tk i := (assoc [(1000002, [37])] i).getD []
  n := 39
  labelR l := (assoc [] l).getD 0
  loops := assoc [(5, keys_Find_l5_s k)]
  labels := assoc []
  joins := assoc []
  xl i e := match e with
    | .nxt => assoc [] i
    | .ret => assoc [(5, ([4, 5], []))] i
    | .exit j => (assoc [(5, [(0, ([2, 3], [2, 3]))])] i).bind fun l => assoc l j
    | .goto j => (assoc [] i).bind fun l => assoc l j
noncomputable def keys_Find_L : List Code := selI [5] (loopsOf keys_Find_code)
noncomputable def keys_Find_J : List Code := selI [] (joinsOf keys_Find_code)
noncomputable def keys_Find_S : List Code := scopesOf keys_Find_code
theorem keys_Find_l5_eq0 {ρ : Type} (k : Nat) (K : Ex → St UU → Option ρ) : ∀ (n : Nat) (v : Int × (List (List S41)) × (List S41)), iterK UX (fun s => s.at (keys_Find_cfg (ρ := ρ) k).live (keys_Find_cfg (ρ := ρ) k).boxes (some 5)) (exec UX (keys_Find_cfg k) (keys_Find_G k) (keys_Find_L.getD 0 .skip)) n ⟨[(2, .ptr 2 0), (3, .ptr 3 0), (7, .pv (.int .i64 v.1))], [(2, [.pv (.typ (.ll41 v.2.1))]), (3, [.pv (.typ (.l41 v.2.2))])]⟩ (nrmK UX (keys_Find_cfg k) 5 K) = keys_Find_l5 k (fun t4 t5 => K .ret ⟨[(4, .pv (.int .i64 t4)), (5, .pv (.int .i64 t5))], []⟩) (fun l2_0 k3_0 => K (.exit 0) ⟨[(2, .ptr 2 0), (3, .ptr 3 0)], [(2, [.pv (.typ (.ll41 l2_0))]), (3, [.pv (.typ (.l41 k3_0))])]⟩) n v.1 v.2.1 v.2.2 :=
  iter_rec (X := UX) (fun v => ⟨[(2, .ptr 2 0), (3, .ptr 3 0), (7, .pv (.int .i64 v.1))], [(2, [.pv (.typ (.ll41 v.2.1))]), (3, [.pv (.typ (.l41 v.2.2))])]⟩) (fun rec v => keys_Find_l5_b k (fun t4 t5 => K .ret ⟨[(4, .pv (.int .i64 t4)), (5, .pv (.int .i64 t5))], []⟩) (fun l2_0 k3_0 => K (.exit 0) ⟨[(2, .ptr 2 0), (3, .ptr 3 0)], [(2, [.pv (.typ (.ll41 l2_0))]), (3, [.pv (.typ (.l41 k3_0))])]⟩) (fun i7 l2_0 k3_0 => rec (i7, l2_0, k3_0)) v.1 v.2.1 v.2.2) (fun n v => keys_Find_l5 k (fun t4 t5 => K .ret ⟨[(4, .pv (.int .i64 t4)), (5, .pv (.int .i64 t5))], []⟩) (fun l2_0 k3_0 => K (.exit 0) ⟨[(2, .ptr 2 0), (3, .ptr 3 0)], [(2, [.pv (.typ (.ll41 l2_0))]), (3, [.pv (.typ (.l41 k3_0))])]⟩) n v.1 v.2.1 v.2.2) (fun n v => by kernel_rfl) (fun _ => rfl) (fun _ _ => rfl)
theorem keys_Find_l5_ok0 {ρ : Type} (k : Nat) : IterOK UX (keys_Find_cfg (ρ := ρ) k) (keys_Find_G k) (keys_Find_L.getD 0 .skip) 5 (keys_Find_l5_s k) := by
  intro s K r h
  obtain ⟨env, hp⟩ := s
  unfold keys_Find_l5_s at h
  replace h := popS_inv h; obtain ⟨v1, e2, rfl, h⟩ := h
  replace h := asP_inv h; obtain ⟨rfl, h⟩ := h
  replace h := popS_inv h; obtain ⟨v3, e4, rfl, h⟩ := h
  replace h := asP_inv h; obtain ⟨rfl, h⟩ := h
  replace h := popS_inv h; obtain ⟨v5, e6, rfl, h⟩ := h
  replace h := asI_inv h; obtain ⟨i7, rfl, h⟩ := h
  replace h := popN_inv h; obtain ⟨rfl, h⟩ := h
  replace h := popB_inv h; obtain ⟨c7, e8, rfl, h⟩ := h
  replace h := popA_inv h; obtain ⟨v9, c10, rfl, h⟩ := h
  replace h := as_ll41_inv h; obtain ⟨z11, rfl, h⟩ := h
  replace h := popN_inv h; obtain ⟨rfl, h⟩ := h
  replace h := popB_inv h; obtain ⟨c12, e13, rfl, h⟩ := h
  replace h := popA_inv h; obtain ⟨v14, c15, rfl, h⟩ := h
  replace h := as_l41_inv h; obtain ⟨z16, rfl, h⟩ := h
  replace h := popN_inv h; obtain ⟨rfl, h⟩ := h
  replace h := popN_inv h; obtain ⟨rfl, h⟩ := h
  exact ⟨k, (keys_Find_l5_eq0 k K k (i7, z11, z16)).trans h⟩
theorem keys_Find_cok {ρ : Type} (k : Nat) : COK (keys_Find_cfg (ρ := ρ) k) (keys_Find_G k) keys_Find_code :=
  cok_of (tl := [(5, keys_Find_l5_s k)]) (tj := []) (tb := []) rfl rfl rfl (all_nth 1 (by kernel_rfl) ⟨iter_case (by kernel_rfl) rfl (keys_Find_l5_ok0 k), trivial⟩) (nil_all (by kernel_rfl)) (fun p hp => by cases hp)
noncomputable def keys_Find_enc (r : Int × Int) : AV UU := .pv (.tup [.int .i64 r.1, .int .i64 r.2])
noncomputable def keys_Find_dec (v : AV UU) (_ : List (List (AV UU))) : Option (Int × Int) :=
asT v fun q1 =>
popA q1 fun p2 q3 =>
asI .i64 (.pv p2) fun r0 =>
popA q3 fun p4 q5 =>
asI .i64 (.pv p4) fun r1 =>
popN q5 <|
some (r0, r1)
theorem keys_Find_dec_enc (v : AV UU) (b : List (List (AV UU))) (r : Int × Int) (h : keys_Find_dec v b = some r) : v = keys_Find_enc r := by
  unfold keys_Find_dec at h
  replace h := asT_inv h; obtain ⟨q1, rfl, h⟩ := h
  replace h := popA_inv h; obtain ⟨p2, q3, rfl, h⟩ := h
  replace h := asI_inv h; obtain ⟨r0, e, h⟩ := h; cases e
  replace h := popA_inv h; obtain ⟨p4, q5, rfl, h⟩ := h
  replace h := asI_inv h; obtain ⟨r1, e, h⟩ := h; cases e
  replace h := popN_inv h; obtain ⟨rfl, h⟩ := h
  cases h
  rfl
theorem keys_Find_eq (k : Nat) (l0 : List (List S41)) (k1 : List S41) : bodyK UX (keys_Find_cfg k) (keys_Find_G k) Try.f5 [.pv (.typ (.ll41 l0)), .pv (.typ (.l41 k1))] [] keys_Find_dec = keys_Find k l0 k1 := by kernel_rfl
theorem keys_Find_con (k : Nat) (l0 : List (List S41)) (k1 : List S41) (r : Int × Int) (h : keys_Find k l0 k1 = some r) : Con (X := UX) Try.prog 5 [.pv (.typ (.ll41 l0)), .pv (.typ (.l41 k1))] [] (keys_Find_enc r) [] :=
  con_of_body xok tok Try.func5 keys_Find_body (keys_Find_gok k) rfl (keys_Find_cok k) (of_decide_eq_true (by kernel_rfl)) keys_Find_dec_enc ((keys_Find_eq k l0 k1).trans h)
noncomputable def keys_Find_an {ρ : Type} (k : Nat) : An UX ρ := fun args bx K =>
popA args fun v1 a2 =>
as_ll41 v1 fun l0 =>
popA a2 fun v3 a4 =>
as_l41 v3 fun k1 =>
popN a4 <|
popN bx <|
(keys_Find k l0 k1).bind fun r => K (keys_Find_enc r) []
theorem keys_Find_ok {ρ : Type} (k : Nat) : AnsOK Try.prog 5 (keys_Find_an (ρ := ρ) k) := by
  intro args bx K r h
  unfold keys_Find_an at h
  replace h := popA_inv h; obtain ⟨v1, a2, rfl, h⟩ := h
  replace h := as_ll41_inv h; obtain ⟨l0, rfl, h⟩ := h
  replace h := popA_inv h; obtain ⟨v3, a4, rfl, h⟩ := h
  replace h := as_l41_inv h; obtain ⟨k1, rfl, h⟩ := h
  replace h := popN_inv h; obtain ⟨rfl, h⟩ := h
  replace h := popN_inv h; obtain ⟨rfl, h⟩ := h
  replace h := bind_inv h
  obtain ⟨x, hx, h⟩ := h
  exact ⟨there_of Try.func5 (by kernel_rfl) keys_Find_body, _, _, h, keys_Find_con k l0 k1 x hx⟩

/-! cadastre/cadastrelaw7.num -/
noncomputable def cadastrelaw7_num_code : Code := match Try.f6.body with | some c => c | none => .skip
theorem cadastrelaw7_num_body : Try.f6.body = some cadastrelaw7_num_code := by kernel_rfl
noncomputable def cadastrelaw7_num_G {ρ : Type} (k : Nat) : Ans UX ρ := gnil
theorem cadastrelaw7_num_gok {ρ : Type} (k : Nat) : GOK Try.prog (cadastrelaw7_num_G (ρ := ρ) k) := gok_nil
noncomputable def cadastrelaw7_num_cfg {ρ : Type} (k : Nat) : Cfg UX ρ where
  live i := (assoc [(0, [0]), (1, [0])] i).getD []
  boxes i := (assoc [(0, []), (1, [])] i).getD []
  tk i := (assoc [] i).getD []
  n := 4
  labelR l := (assoc [] l).getD 0
  loops := assoc []
  labels := assoc []
  joins := assoc []
  xl i e := match e with
    | .nxt => assoc [] i
    | .ret => assoc [] i
    | .exit j => (assoc [] i).bind fun l => assoc l j
    | .goto j => (assoc [] i).bind fun l => assoc l j
noncomputable def cadastrelaw7_num_L : List Code := selI [] (loopsOf cadastrelaw7_num_code)
noncomputable def cadastrelaw7_num_J : List Code := selI [] (joinsOf cadastrelaw7_num_code)
noncomputable def cadastrelaw7_num_S : List Code := scopesOf cadastrelaw7_num_code
theorem cadastrelaw7_num_cok {ρ : Type} (k : Nat) : COK (cadastrelaw7_num_cfg (ρ := ρ) k) (cadastrelaw7_num_G k) cadastrelaw7_num_code :=
  cok_of (tl := []) (tj := []) (tb := []) rfl rfl rfl (nil_all (by kernel_rfl)) (nil_all (by kernel_rfl)) (fun p hp => by cases hp)
noncomputable def cadastrelaw7_num_enc (r : Int) : AV UU := .pv (.int .i64 r)
noncomputable def cadastrelaw7_num_dec (v : AV UU) (_ : List (List (AV UU))) : Option Int :=
asI .i64 v fun r0 =>
some r0
theorem cadastrelaw7_num_dec_enc (v : AV UU) (b : List (List (AV UU))) (r : Int) (h : cadastrelaw7_num_dec v b = some r) : v = cadastrelaw7_num_enc r := by
  unfold cadastrelaw7_num_dec at h
  replace h := asI_inv h; obtain ⟨r0, rfl, h⟩ := h
  cases h
  rfl
theorem cadastrelaw7_num_eq (k : Nat) (e0 : Int) : bodyK UX (cadastrelaw7_num_cfg k) (cadastrelaw7_num_G k) Try.f6 [.pv (.int .i64 e0)] [] cadastrelaw7_num_dec = cadastrelaw7_num k e0 := by kernel_rfl
theorem cadastrelaw7_num_con (k : Nat) (e0 : Int) (r : Int) (h : cadastrelaw7_num k e0 = some r) : Con (X := UX) Try.prog 6 [.pv (.int .i64 e0)] [] (cadastrelaw7_num_enc r) [] :=
  con_of_body xok tok Try.func6 cadastrelaw7_num_body (cadastrelaw7_num_gok k) rfl (cadastrelaw7_num_cok k) (of_decide_eq_true (by kernel_rfl)) cadastrelaw7_num_dec_enc ((cadastrelaw7_num_eq k e0).trans h)
noncomputable def cadastrelaw7_num_an {ρ : Type} (k : Nat) : An UX ρ := fun args bx K =>
popA args fun v1 a2 =>
asI .i64 v1 fun e0 =>
popN a2 <|
popN bx <|
(cadastrelaw7_num k e0).bind fun r => K (cadastrelaw7_num_enc r) []
theorem cadastrelaw7_num_ok {ρ : Type} (k : Nat) : AnsOK Try.prog 6 (cadastrelaw7_num_an (ρ := ρ) k) := by
  intro args bx K r h
  unfold cadastrelaw7_num_an at h
  replace h := popA_inv h; obtain ⟨v1, a2, rfl, h⟩ := h
  replace h := asI_inv h; obtain ⟨e0, rfl, h⟩ := h
  replace h := popN_inv h; obtain ⟨rfl, h⟩ := h
  replace h := popN_inv h; obtain ⟨rfl, h⟩ := h
  replace h := bind_inv h
  obtain ⟨x, hx, h⟩ := h
  exact ⟨there_of Try.func6 (by kernel_rfl) cadastrelaw7_num_body, _, _, h, cadastrelaw7_num_con k e0 x hx⟩

/-! cadastre/keys.Cmp -/
noncomputable def keys_Cmp_code : Code := match Try.f7.body with | some c => c | none => .skip
theorem keys_Cmp_body : Try.f7.body = some keys_Cmp_code := by kernel_rfl
noncomputable def keys_Cmp_G {ρ : Type} (k : Nat) : Ans UX ρ := gk 11 (keys_Check_an k) (gk 12 (keys_Order_an k) (gnil))
theorem keys_Cmp_gok {ρ : Type} (k : Nat) : GOK Try.prog (keys_Cmp_G (ρ := ρ) k) := gok_cons (keys_Check_ok k) (gok_cons (keys_Order_ok k) (gok_nil))
noncomputable def keys_Cmp_cfg {ρ : Type} (k : Nat) : Cfg UX ρ where
  live i := (assoc [(0, [0, 1]), (1, [0, 1]), (2, [0, 1, 6]), (3, [6]), (4, [0, 1])] i).getD []
  boxes i := (assoc [(0, []), (1, []), (2, []), (3, []), (4, [])] i).getD []
  tk i := (assoc [] i).getD []
  n := 17
  labelR l := (assoc [] l).getD 0
  loops := assoc []
  labels := assoc []
  joins := assoc []
  xl i e := match e with
    | .nxt => assoc [] i
    | .ret => assoc [] i
    | .exit j => (assoc [] i).bind fun l => assoc l j
    | .goto j => (assoc [] i).bind fun l => assoc l j
noncomputable def keys_Cmp_L : List Code := selI [] (loopsOf keys_Cmp_code)
noncomputable def keys_Cmp_J : List Code := selI [] (joinsOf keys_Cmp_code)
noncomputable def keys_Cmp_S : List Code := scopesOf keys_Cmp_code
theorem keys_Cmp_cok {ρ : Type} (k : Nat) : COK (keys_Cmp_cfg (ρ := ρ) k) (keys_Cmp_G k) keys_Cmp_code :=
  cok_of (tl := []) (tj := []) (tb := []) rfl rfl rfl (nil_all (by kernel_rfl)) (nil_all (by kernel_rfl)) (fun p hp => by cases hp)
noncomputable def keys_Cmp_enc (r : Int × Int) : AV UU := .pv (.tup [.int .i64 r.1, .int .i64 r.2])
noncomputable def keys_Cmp_dec (v : AV UU) (_ : List (List (AV UU))) : Option (Int × Int) :=
asT v fun q1 =>
popA q1 fun p2 q3 =>
asI .i64 (.pv p2) fun r0 =>
popA q3 fun p4 q5 =>
asI .i64 (.pv p4) fun r1 =>
popN q5 <|
some (r0, r1)
theorem keys_Cmp_dec_enc (v : AV UU) (b : List (List (AV UU))) (r : Int × Int) (h : keys_Cmp_dec v b = some r) : v = keys_Cmp_enc r := by
  unfold keys_Cmp_dec at h
  replace h := asT_inv h; obtain ⟨q1, rfl, h⟩ := h
  replace h := popA_inv h; obtain ⟨p2, q3, rfl, h⟩ := h
  replace h := asI_inv h; obtain ⟨r0, e, h⟩ := h; cases e
  replace h := popA_inv h; obtain ⟨p4, q5, rfl, h⟩ := h
  replace h := asI_inv h; obtain ⟨r1, e, h⟩ := h; cases e
  replace h := popN_inv h; obtain ⟨rfl, h⟩ := h
  cases h
  rfl
theorem keys_Cmp_eq (k : Nat) (a0 : List S41) (b1 : List S41) : bodyK UX (keys_Cmp_cfg k) (keys_Cmp_G k) Try.f7 [.pv (.typ (.l41 a0)), .pv (.typ (.l41 b1))] [] keys_Cmp_dec = keys_Cmp k a0 b1 := by kernel_rfl
theorem keys_Cmp_con (k : Nat) (a0 : List S41) (b1 : List S41) (r : Int × Int) (h : keys_Cmp k a0 b1 = some r) : Con (X := UX) Try.prog 7 [.pv (.typ (.l41 a0)), .pv (.typ (.l41 b1))] [] (keys_Cmp_enc r) [] :=
  con_of_body xok tok Try.func7 keys_Cmp_body (keys_Cmp_gok k) rfl (keys_Cmp_cok k) (of_decide_eq_true (by kernel_rfl)) keys_Cmp_dec_enc ((keys_Cmp_eq k a0 b1).trans h)
noncomputable def keys_Cmp_an {ρ : Type} (k : Nat) : An UX ρ := fun args bx K =>
popA args fun v1 a2 =>
as_l41 v1 fun a0 =>
popA a2 fun v3 a4 =>
as_l41 v3 fun b1 =>
popN a4 <|
popN bx <|
(keys_Cmp k a0 b1).bind fun r => K (keys_Cmp_enc r) []
theorem keys_Cmp_ok {ρ : Type} (k : Nat) : AnsOK Try.prog 7 (keys_Cmp_an (ρ := ρ) k) := by
  intro args bx K r h
  unfold keys_Cmp_an at h
  replace h := popA_inv h; obtain ⟨v1, a2, rfl, h⟩ := h
  replace h := as_l41_inv h; obtain ⟨a0, rfl, h⟩ := h
  replace h := popA_inv h; obtain ⟨v3, a4, rfl, h⟩ := h
  replace h := as_l41_inv h; obtain ⟨b1, rfl, h⟩ := h
  replace h := popN_inv h; obtain ⟨rfl, h⟩ := h
  replace h := popN_inv h; obtain ⟨rfl, h⟩ := h
  replace h := bind_inv h
  obtain ⟨x, hx, h⟩ := h
  exact ⟨there_of Try.func7 (by kernel_rfl) keys_Cmp_body, _, _, h, keys_Cmp_con k a0 b1 x hx⟩

/-! cadastre/cadastrelaw7.wakes -/
noncomputable def cadastrelaw7_wakes_code : Code := match Try.f8.body with | some c => c | none => .skip
theorem cadastrelaw7_wakes_body : Try.f8.body = some cadastrelaw7_wakes_code := by kernel_rfl
noncomputable def cadastrelaw7_wakes_G {ρ : Type} (k : Nat) : Ans UX ρ := gk 7 (keys_Cmp_an k) (gk 6 (cadastrelaw7_num_an k) (gnil))
theorem cadastrelaw7_wakes_gok {ρ : Type} (k : Nat) : GOK Try.prog (cadastrelaw7_wakes_G (ρ := ρ) k) := gok_cons (keys_Cmp_ok k) (gok_cons (cadastrelaw7_num_ok k) (gok_nil))
noncomputable def cadastrelaw7_wakes_cfg {ρ : Type} (k : Nat) : Cfg UX ρ where
  live i := (assoc [(0, []), (1, []), (2, [1]), (3, [2, 3])] i).getD []
  boxes i := (assoc [(0, []), (1, []), (2, [1]), (3, [])] i).getD []
  tk i := (assoc [] i).getD []
  n := 21
  labelR l := (assoc [] l).getD 0
  loops := assoc []
  labels := assoc []
  joins := assoc []
  xl i e := match e with
    | .nxt => assoc [] i
    | .ret => assoc [] i
    | .exit j => (assoc [] i).bind fun l => assoc l j
    | .goto j => (assoc [] i).bind fun l => assoc l j
noncomputable def cadastrelaw7_wakes_L : List Code := selI [] (loopsOf cadastrelaw7_wakes_code)
noncomputable def cadastrelaw7_wakes_J : List Code := selI [] (joinsOf cadastrelaw7_wakes_code)
noncomputable def cadastrelaw7_wakes_S : List Code := scopesOf cadastrelaw7_wakes_code
theorem cadastrelaw7_wakes_cok {ρ : Type} (k : Nat) : COK (cadastrelaw7_wakes_cfg (ρ := ρ) k) (cadastrelaw7_wakes_G k) cadastrelaw7_wakes_code :=
  cok_of (tl := []) (tj := []) (tb := []) rfl rfl rfl (nil_all (by kernel_rfl)) (nil_all (by kernel_rfl)) (fun p hp => by cases hp)
noncomputable def cadastrelaw7_wakes_enc (r : Bool) : AV UU := .pv (.bool r)
noncomputable def cadastrelaw7_wakes_dec (v : AV UU) (_ : List (List (AV UU))) : Option Bool :=
asB v fun r0 =>
some r0
theorem cadastrelaw7_wakes_dec_enc (v : AV UU) (b : List (List (AV UU))) (r : Bool) (h : cadastrelaw7_wakes_dec v b = some r) : v = cadastrelaw7_wakes_enc r := by
  unfold cadastrelaw7_wakes_dec at h
  replace h := asB_inv h; obtain ⟨r0, rfl, h⟩ := h
  cases h
  rfl
theorem cadastrelaw7_wakes_eq (k : Nat) : bodyK UX (cadastrelaw7_wakes_cfg k) (cadastrelaw7_wakes_G k) Try.f8 [] [] cadastrelaw7_wakes_dec = cadastrelaw7_wakes k := by kernel_rfl
theorem cadastrelaw7_wakes_con (k : Nat) (r : Bool) (h : cadastrelaw7_wakes k = some r) : Con (X := UX) Try.prog 8 [] [] (cadastrelaw7_wakes_enc r) [] :=
  con_of_body xok tok Try.func8 cadastrelaw7_wakes_body (cadastrelaw7_wakes_gok k) rfl (cadastrelaw7_wakes_cok k) (of_decide_eq_true (by kernel_rfl)) cadastrelaw7_wakes_dec_enc ((cadastrelaw7_wakes_eq k).trans h)
noncomputable def cadastrelaw7_wakes_an {ρ : Type} (k : Nat) : An UX ρ := fun args bx K =>
popN args <|
popN bx <|
(cadastrelaw7_wakes k).bind fun r => K (cadastrelaw7_wakes_enc r) []
theorem cadastrelaw7_wakes_ok {ρ : Type} (k : Nat) : AnsOK Try.prog 8 (cadastrelaw7_wakes_an (ρ := ρ) k) := by
  intro args bx K r h
  unfold cadastrelaw7_wakes_an at h
  replace h := popN_inv h; obtain ⟨rfl, h⟩ := h
  replace h := popN_inv h; obtain ⟨rfl, h⟩ := h
  replace h := bind_inv h
  obtain ⟨x, hx, h⟩ := h
  exact ⟨there_of Try.func8 (by kernel_rfl) cadastrelaw7_wakes_body, _, _, h, cadastrelaw7_wakes_con k x hx⟩

/-! cadastre/cadastrelaw7.KeysFinds -/
noncomputable def cadastrelaw7_KeysFinds_code : Code := match Try.f3.body with | some c => c | none => .skip
theorem cadastrelaw7_KeysFinds_body : Try.f3.body = some cadastrelaw7_KeysFinds_code := by kernel_rfl
noncomputable def cadastrelaw7_KeysFinds_G {ρ : Type} (k : Nat) : Ans UX ρ := gk 4 (cadastrelaw7_heavy_an k) (gk 5 (keys_Find_an k) (gk 6 (cadastrelaw7_num_an k) (gk 7 (keys_Cmp_an k) (gk 8 (cadastrelaw7_wakes_an k) (gnil)))))
theorem cadastrelaw7_KeysFinds_gok {ρ : Type} (k : Nat) : GOK Try.prog (cadastrelaw7_KeysFinds_G (ρ := ρ) k) := gok_cons (cadastrelaw7_heavy_ok k) (gok_cons (keys_Find_ok k) (gok_cons (cadastrelaw7_num_ok k) (gok_cons (keys_Cmp_ok k) (gok_cons (cadastrelaw7_wakes_ok k) (gok_nil)))))
noncomputable def cadastrelaw7_KeysFinds_l10_s {ρ : Type} (k : Nat) : Run UX ρ := fun s K =>
popS 0 s.env fun v1 e2 =>
as_l25 v1 fun l0 =>
popS 3 e2 fun v3 e4 =>
asI .i64 v3 fun i3 =>
popS 4 e4 fun v5 e6 =>
asP 4 0 v5 <|
popS 5 e6 fun v7 e8 =>
asI .i64 v7 fun n5 =>
popS 7 e8 fun v9 e10 =>
asI .i64 v9 fun k7 =>
popN e10 <|
popB 4 s.hp fun c11 e12 =>
popA c11 fun v13 c14 =>
as_l41 v13 fun z15 =>
popA c14 fun v16 c17 =>
as_l41 v16 fun z18 =>
popA c17 fun v19 c20 =>
as_ll41 v19 fun z21 =>
popN c20 <|
popN e12 <|
cadastrelaw7_KeysFinds_l10 k (fun t2 => K .ret ⟨[(2, .pv (.bool t2))], []⟩) (fun l0 i3 p4 => K (.exit 2) ⟨[(0, .pv (.typ (.l25 l0))), (3, .pv (.int .i64 i3)), (4, .ptr 4 0)], [(4, [.pv (.typ (.l41 p4.f0)), .pv (.typ (.l41 p4.f1)), .pv (.typ (.ll41 p4.f2))])]⟩) k l0 i3 n5 k7 (⟨z15, z18, z21⟩ : S25)
noncomputable def cadastrelaw7_KeysFinds_j4_s {ρ : Type} (k : Nat) : Run UX ρ := fun s K =>
popS 0 s.env fun v1 e2 =>
as_l25 v1 fun l0 =>
popS 3 e2 fun v3 e4 =>
asI .i64 v3 fun i3 =>
popN e4 <|
popN s.hp <|
cadastrelaw7_KeysFinds_j4 k (fun t2 => K .ret ⟨[(2, .pv (.bool t2))], []⟩) (fun l0 i3 => K .nxt ⟨[(0, .pv (.typ (.l25 l0))), (3, .pv (.int .i64 i3))], []⟩) l0 i3
noncomputable def cadastrelaw7_KeysFinds_l2_s {ρ : Type} (k : Nat) : Run UX ρ := fun s K =>
popS 0 s.env fun v1 e2 =>
as_l25 v1 fun l0 =>
popS 3 e2 fun v3 e4 =>
asI .i64 v3 fun i3 =>
popN e4 <|
popN s.hp <|
cadastrelaw7_KeysFinds_l2 k (fun t2 => K .ret ⟨[(2, .pv (.bool t2))], []⟩) (K (.exit 0) ⟨[], []⟩) k l0 i3
noncomputable def cadastrelaw7_KeysFinds_cfg {ρ : Type} (k : Nat) : Cfg UX ρ where
  live i := (assoc [(0, [0]), (1, [0]), (2, [0, 3]), (3, [0, 3]), (4, [0, 3]), (5, [0, 3, 4]), (6, []), (7, [0, 3, 4]), (8, [0, 3, 4, 5, 6]), (9, [0, 3, 4, 5]), (10, [0, 3, 4, 5, 7]), (11, [0, 3, 4, 5, 7]), (12, [0, 3, 4, 5, 7]), (13, [0, 3, 4, 5, 7, 8, 9]), (14, [0, 3, 4, 5, 7, 8, 9, 10, 11]), (15, []), (16, [0, 3, 4]), (17, [0, 3, 12, 13]), (18, []), (19, [])] i).getD []
  boxes i := (assoc [(0, []), (1, []), (2, []), (3, []), (4, []), (5, [4]), (6, []), (7, [4]), (8, [4]), (9, [4]), (10, [4]), (11, [4]), (12, [4]), (13, [4]), (14, [4]), (15, []), (16, [4]), (17, []), (18, []), (19, [])] i).getD []
  tk i := (assoc [] i).getD []
  n := 115
  labelR l := (assoc [] l).getD 0
  loops := assoc [(10, cadastrelaw7_KeysFinds_l10_s k), (2, cadastrelaw7_KeysFinds_l2_s k)]
  labels := assoc []
  joins := assoc [(4, cadastrelaw7_KeysFinds_j4_s k)]
  xl i e := match e with
    | .nxt => assoc [(4, ([0, 3], []))] i
    | .ret => assoc [(10, ([2], [])), (4, ([2], [])), (2, ([2], []))] i
    | .exit j => (assoc [(10, [(2, ([0, 3, 4], [4]))]), (2, [(0, ([], []))])] i).bind fun l => assoc l j
    | .goto j => (assoc [] i).bind fun l => assoc l j
noncomputable def cadastrelaw7_KeysFinds_L : List Code := selI [10, 2] (loopsOf cadastrelaw7_KeysFinds_code)
noncomputable def cadastrelaw7_KeysFinds_J : List Code := selI [4] (joinsOf cadastrelaw7_KeysFinds_code)
noncomputable def cadastrelaw7_KeysFinds_S : List Code := scopesOf cadastrelaw7_KeysFinds_code
theorem cadastrelaw7_KeysFinds_l2_eq0 {ρ : Type} (k : Nat) (K : Ex → St UU → Option ρ) : ∀ (n : Nat) (v : (List S25) × Int), iterK UX (fun s => s.at (cadastrelaw7_KeysFinds_cfg (ρ := ρ) k).live (cadastrelaw7_KeysFinds_cfg (ρ := ρ) k).boxes (some 2)) (exec UX (cadastrelaw7_KeysFinds_cfg k) (cadastrelaw7_KeysFinds_G k) (cadastrelaw7_KeysFinds_L.getD 0 .skip)) n ⟨[(0, .pv (.typ (.l25 v.1))), (3, .pv (.int .i64 v.2))], []⟩ (nrmK UX (cadastrelaw7_KeysFinds_cfg k) 2 K) = cadastrelaw7_KeysFinds_l2 k (fun t2 => K .ret ⟨[(2, .pv (.bool t2))], []⟩) (K (.exit 0) ⟨[], []⟩) n v.1 v.2 :=
  iter_rec (X := UX) (fun v => ⟨[(0, .pv (.typ (.l25 v.1))), (3, .pv (.int .i64 v.2))], []⟩) (fun rec v => cadastrelaw7_KeysFinds_l2_b k (fun t2 => K .ret ⟨[(2, .pv (.bool t2))], []⟩) (K (.exit 0) ⟨[], []⟩) (fun l0 i3 => rec (l0, i3)) v.1 v.2) (fun n v => cadastrelaw7_KeysFinds_l2 k (fun t2 => K .ret ⟨[(2, .pv (.bool t2))], []⟩) (K (.exit 0) ⟨[], []⟩) n v.1 v.2) (fun n v => by kernel_rfl) (fun _ => rfl) (fun _ _ => rfl)
theorem cadastrelaw7_KeysFinds_l2_ok0 {ρ : Type} (k : Nat) : IterOK UX (cadastrelaw7_KeysFinds_cfg (ρ := ρ) k) (cadastrelaw7_KeysFinds_G k) (cadastrelaw7_KeysFinds_L.getD 0 .skip) 2 (cadastrelaw7_KeysFinds_l2_s k) := by
  intro s K r h
  obtain ⟨env, hp⟩ := s
  unfold cadastrelaw7_KeysFinds_l2_s at h
  replace h := popS_inv h; obtain ⟨v1, e2, rfl, h⟩ := h
  replace h := as_l25_inv h; obtain ⟨l0, rfl, h⟩ := h
  replace h := popS_inv h; obtain ⟨v3, e4, rfl, h⟩ := h
  replace h := asI_inv h; obtain ⟨i3, rfl, h⟩ := h
  replace h := popN_inv h; obtain ⟨rfl, h⟩ := h
  replace h := popN_inv h; obtain ⟨rfl, h⟩ := h
  exact ⟨k, (cadastrelaw7_KeysFinds_l2_eq0 k K k (l0, i3)).trans h⟩
theorem cadastrelaw7_KeysFinds_l10_eq1 {ρ : Type} (k : Nat) (K : Ex → St UU → Option ρ) : ∀ (n : Nat) (v : (List S25) × Int × Int × Int × S25), iterK UX (fun s => s.at (cadastrelaw7_KeysFinds_cfg (ρ := ρ) k).live (cadastrelaw7_KeysFinds_cfg (ρ := ρ) k).boxes (some 10)) (exec UX (cadastrelaw7_KeysFinds_cfg k) (cadastrelaw7_KeysFinds_G k) (cadastrelaw7_KeysFinds_L.getD 1 .skip)) n ⟨[(0, .pv (.typ (.l25 v.1))), (3, .pv (.int .i64 v.2.1)), (4, .ptr 4 0), (5, .pv (.int .i64 v.2.2.1)), (7, .pv (.int .i64 v.2.2.2.1))], [(4, [.pv (.typ (.l41 v.2.2.2.2.f0)), .pv (.typ (.l41 v.2.2.2.2.f1)), .pv (.typ (.ll41 v.2.2.2.2.f2))])]⟩ (nrmK UX (cadastrelaw7_KeysFinds_cfg k) 10 K) = cadastrelaw7_KeysFinds_l10 k (fun t2 => K .ret ⟨[(2, .pv (.bool t2))], []⟩) (fun l0 i3 p4 => K (.exit 2) ⟨[(0, .pv (.typ (.l25 l0))), (3, .pv (.int .i64 i3)), (4, .ptr 4 0)], [(4, [.pv (.typ (.l41 p4.f0)), .pv (.typ (.l41 p4.f1)), .pv (.typ (.ll41 p4.f2))])]⟩) n v.1 v.2.1 v.2.2.1 v.2.2.2.1 v.2.2.2.2 :=
  iter_rec (X := UX) (fun v => ⟨[(0, .pv (.typ (.l25 v.1))), (3, .pv (.int .i64 v.2.1)), (4, .ptr 4 0), (5, .pv (.int .i64 v.2.2.1)), (7, .pv (.int .i64 v.2.2.2.1))], [(4, [.pv (.typ (.l41 v.2.2.2.2.f0)), .pv (.typ (.l41 v.2.2.2.2.f1)), .pv (.typ (.ll41 v.2.2.2.2.f2))])]⟩) (fun rec v => cadastrelaw7_KeysFinds_l10_b k (fun t2 => K .ret ⟨[(2, .pv (.bool t2))], []⟩) (fun l0 i3 p4 => K (.exit 2) ⟨[(0, .pv (.typ (.l25 l0))), (3, .pv (.int .i64 i3)), (4, .ptr 4 0)], [(4, [.pv (.typ (.l41 p4.f0)), .pv (.typ (.l41 p4.f1)), .pv (.typ (.ll41 p4.f2))])]⟩) (fun l0 i3 n5 k7 p4 => rec (l0, i3, n5, k7, p4)) v.1 v.2.1 v.2.2.1 v.2.2.2.1 v.2.2.2.2) (fun n v => cadastrelaw7_KeysFinds_l10 k (fun t2 => K .ret ⟨[(2, .pv (.bool t2))], []⟩) (fun l0 i3 p4 => K (.exit 2) ⟨[(0, .pv (.typ (.l25 l0))), (3, .pv (.int .i64 i3)), (4, .ptr 4 0)], [(4, [.pv (.typ (.l41 p4.f0)), .pv (.typ (.l41 p4.f1)), .pv (.typ (.ll41 p4.f2))])]⟩) n v.1 v.2.1 v.2.2.1 v.2.2.2.1 v.2.2.2.2) (fun n v => by kernel_rfl) (fun _ => rfl) (fun _ _ => rfl)
theorem cadastrelaw7_KeysFinds_l10_ok1 {ρ : Type} (k : Nat) : IterOK UX (cadastrelaw7_KeysFinds_cfg (ρ := ρ) k) (cadastrelaw7_KeysFinds_G k) (cadastrelaw7_KeysFinds_L.getD 1 .skip) 10 (cadastrelaw7_KeysFinds_l10_s k) := by
  intro s K r h
  obtain ⟨env, hp⟩ := s
  unfold cadastrelaw7_KeysFinds_l10_s at h
  replace h := popS_inv h; obtain ⟨v1, e2, rfl, h⟩ := h
  replace h := as_l25_inv h; obtain ⟨l0, rfl, h⟩ := h
  replace h := popS_inv h; obtain ⟨v3, e4, rfl, h⟩ := h
  replace h := asI_inv h; obtain ⟨i3, rfl, h⟩ := h
  replace h := popS_inv h; obtain ⟨v5, e6, rfl, h⟩ := h
  replace h := asP_inv h; obtain ⟨rfl, h⟩ := h
  replace h := popS_inv h; obtain ⟨v7, e8, rfl, h⟩ := h
  replace h := asI_inv h; obtain ⟨n5, rfl, h⟩ := h
  replace h := popS_inv h; obtain ⟨v9, e10, rfl, h⟩ := h
  replace h := asI_inv h; obtain ⟨k7, rfl, h⟩ := h
  replace h := popN_inv h; obtain ⟨rfl, h⟩ := h
  replace h := popB_inv h; obtain ⟨c11, e12, rfl, h⟩ := h
  replace h := popA_inv h; obtain ⟨v13, c14, rfl, h⟩ := h
  replace h := as_l41_inv h; obtain ⟨z15, rfl, h⟩ := h
  replace h := popA_inv h; obtain ⟨v16, c17, rfl, h⟩ := h
  replace h := as_l41_inv h; obtain ⟨z18, rfl, h⟩ := h
  replace h := popA_inv h; obtain ⟨v19, c20, rfl, h⟩ := h
  replace h := as_ll41_inv h; obtain ⟨z21, rfl, h⟩ := h
  replace h := popN_inv h; obtain ⟨rfl, h⟩ := h
  replace h := popN_inv h; obtain ⟨rfl, h⟩ := h
  exact ⟨k, (cadastrelaw7_KeysFinds_l10_eq1 k K k (l0, i3, n5, k7, (⟨z15, z18, z21⟩ : S25))).trans h⟩
theorem cadastrelaw7_KeysFinds_j4_eq0 {ρ : Type} (k : Nat) (K : Ex → St UU → Option ρ) (l0 : List S25) (i3 : Int) : exec UX (cadastrelaw7_KeysFinds_cfg k) (cadastrelaw7_KeysFinds_G k) (cadastrelaw7_KeysFinds_J.getD 0 .skip) ⟨[(0, .pv (.typ (.l25 l0))), (3, .pv (.int .i64 i3))], []⟩ (nrmK UX (cadastrelaw7_KeysFinds_cfg k) 4 K) = cadastrelaw7_KeysFinds_j4 k (fun t2 => K .ret ⟨[(2, .pv (.bool t2))], []⟩) (fun l0 i3 => K .nxt ⟨[(0, .pv (.typ (.l25 l0))), (3, .pv (.int .i64 i3))], []⟩) l0 i3 := by kernel_rfl
theorem cadastrelaw7_KeysFinds_j4_ok0 {ρ : Type} (k : Nat) : JoinOK UX (cadastrelaw7_KeysFinds_cfg (ρ := ρ) k) (cadastrelaw7_KeysFinds_G k) (cadastrelaw7_KeysFinds_J.getD 0 .skip) 4 (cadastrelaw7_KeysFinds_j4_s k) := by
  intro s K r h
  obtain ⟨env, hp⟩ := s
  unfold cadastrelaw7_KeysFinds_j4_s at h
  replace h := popS_inv h; obtain ⟨v1, e2, rfl, h⟩ := h
  replace h := as_l25_inv h; obtain ⟨l0, rfl, h⟩ := h
  replace h := popS_inv h; obtain ⟨v3, e4, rfl, h⟩ := h
  replace h := asI_inv h; obtain ⟨i3, rfl, h⟩ := h
  replace h := popN_inv h; obtain ⟨rfl, h⟩ := h
  replace h := popN_inv h; obtain ⟨rfl, h⟩ := h
  exact (cadastrelaw7_KeysFinds_j4_eq0 k K l0 i3).trans h
theorem cadastrelaw7_KeysFinds_cok {ρ : Type} (k : Nat) : COK (cadastrelaw7_KeysFinds_cfg (ρ := ρ) k) (cadastrelaw7_KeysFinds_G k) cadastrelaw7_KeysFinds_code :=
  cok_of (tl := [(10, cadastrelaw7_KeysFinds_l10_s k), (2, cadastrelaw7_KeysFinds_l2_s k)]) (tj := [(4, cadastrelaw7_KeysFinds_j4_s k)]) (tb := []) rfl rfl rfl (all_nth 2 (by kernel_rfl) ⟨iter_case (by kernel_rfl) rfl (cadastrelaw7_KeysFinds_l10_ok1 k), iter_case (by kernel_rfl) rfl (cadastrelaw7_KeysFinds_l2_ok0 k), trivial⟩) (all_nth 1 (by kernel_rfl) ⟨join_case (by kernel_rfl) rfl (cadastrelaw7_KeysFinds_j4_ok0 k), trivial⟩) (fun p hp => by cases hp)
noncomputable def cadastrelaw7_KeysFinds_enc (r : Bool) : AV UU := .pv (.bool r)
noncomputable def cadastrelaw7_KeysFinds_dec (v : AV UU) (_ : List (List (AV UU))) : Option Bool :=
asB v fun r0 =>
some r0
theorem cadastrelaw7_KeysFinds_dec_enc (v : AV UU) (b : List (List (AV UU))) (r : Bool) (h : cadastrelaw7_KeysFinds_dec v b = some r) : v = cadastrelaw7_KeysFinds_enc r := by
  unfold cadastrelaw7_KeysFinds_dec at h
  replace h := asB_inv h; obtain ⟨r0, rfl, h⟩ := h
  cases h
  rfl
theorem cadastrelaw7_KeysFinds_eq (k : Nat) (l0 : List S25) : bodyK UX (cadastrelaw7_KeysFinds_cfg k) (cadastrelaw7_KeysFinds_G k) Try.f3 [.pv (.typ (.l25 l0))] [] cadastrelaw7_KeysFinds_dec = cadastrelaw7_KeysFinds k l0 := by kernel_rfl
theorem cadastrelaw7_KeysFinds_con (k : Nat) (l0 : List S25) (r : Bool) (h : cadastrelaw7_KeysFinds k l0 = some r) : Con (X := UX) Try.prog 3 [.pv (.typ (.l25 l0))] [] (cadastrelaw7_KeysFinds_enc r) [] :=
  con_of_body xok tok Try.func3 cadastrelaw7_KeysFinds_body (cadastrelaw7_KeysFinds_gok k) rfl (cadastrelaw7_KeysFinds_cok k) (of_decide_eq_true (by kernel_rfl)) cadastrelaw7_KeysFinds_dec_enc ((cadastrelaw7_KeysFinds_eq k l0).trans h)
noncomputable def cadastrelaw7_KeysFinds_an {ρ : Type} (k : Nat) : An UX ρ := fun args bx K =>
popA args fun v1 a2 =>
as_l25 v1 fun l0 =>
popN a2 <|
popN bx <|
(cadastrelaw7_KeysFinds k l0).bind fun r => K (cadastrelaw7_KeysFinds_enc r) []
theorem cadastrelaw7_KeysFinds_ok {ρ : Type} (k : Nat) : AnsOK Try.prog 3 (cadastrelaw7_KeysFinds_an (ρ := ρ) k) := by
  intro args bx K r h
  unfold cadastrelaw7_KeysFinds_an at h
  replace h := popA_inv h; obtain ⟨v1, a2, rfl, h⟩ := h
  replace h := as_l25_inv h; obtain ⟨l0, rfl, h⟩ := h
  replace h := popN_inv h; obtain ⟨rfl, h⟩ := h
  replace h := popN_inv h; obtain ⟨rfl, h⟩ := h
  replace h := bind_inv h
  obtain ⟨x, hx, h⟩ := h
  exact ⟨there_of Try.func3 (by kernel_rfl) cadastrelaw7_KeysFinds_body, _, _, h, cadastrelaw7_KeysFinds_con k l0 x hx⟩
end Go.Proofs.Ytcongmnnacmbmaa.K
