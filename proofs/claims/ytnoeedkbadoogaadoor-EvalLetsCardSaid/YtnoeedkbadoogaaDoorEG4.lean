/-
  What the program's functions answer: the printed functions' answers.
-/
import Derived.Test.YtnoeedkbadoogaaDoorEG3
namespace Go.Proofs.YtnoeedkbadoogaaDoor.E
open Go Go.AX
noncomputable def print_count_code : Code := match Tryd.f27.body with | some c => c | none => .skip
theorem print_count_body : Tryd.f27.body = some print_count_code := by kernel_rfl
noncomputable def print_count_enc (r : Int) : AV UU := .pv (.int .i64 r)
structure print_count_R_ok (rc : print_count_R) : Prop where
  print_count : ∀ (e0 : S25) (high1 : Int) (r : Int), rc.print_count e0 high1 = some r → Con (X := UX) Tryd.prog 27 [.pv (.typ (.s25 e0)), .pv (.int .i64 high1)] [] (print_count_enc r) []
noncomputable def print_count_ran {ρ : Type} (rc : print_count_R) : An UX ρ := fun args bx K =>
popA args fun v1 a2 =>
as_s25 v1 fun e0 =>
popA a2 fun v3 a4 =>
asI .i64 v3 fun high1 =>
popN a4 <|
popN bx <|
(rc.print_count e0 high1).bind fun r => K (print_count_enc r) []
theorem print_count_rok {ρ : Type} (rc : print_count_R) (hrc : print_count_R_ok rc) : AnsOK Tryd.prog 27 (print_count_ran (ρ := ρ) rc) := by
  intro args bx K r h
  unfold print_count_ran at h
  replace h := popA_inv h; obtain ⟨v1, a2, rfl, h⟩ := h
  replace h := as_s25_inv h; obtain ⟨e0, rfl, h⟩ := h
  replace h := popA_inv h; obtain ⟨v3, a4, rfl, h⟩ := h
  replace h := asI_inv h; obtain ⟨high1, rfl, h⟩ := h
  replace h := popN_inv h; obtain ⟨rfl, h⟩ := h
  replace h := popN_inv h; obtain ⟨rfl, h⟩ := h
  replace h := bind_inv h
  obtain ⟨x, hx, h⟩ := h
  exact ⟨there_of Tryd.func27 (by kernel_rfl) print_count_body, _, _, h, hrc.print_count e0 high1 x hx⟩
/-! cadastre/print.count -/
noncomputable def print_count_G {ρ : Type} (k : Nat) (rc : print_count_R) : Ans UX ρ := gk 43 (print_one_an k) (gk 27 (print_count_ran rc) (gnil))
theorem print_count_gok {ρ : Type} (k : Nat) (rc : print_count_R) (hrc : print_count_R_ok rc) : GOK Tryd.prog (print_count_G (ρ := ρ) k rc) := gok_cons (print_one_ok k) (gok_cons (print_count_rok rc hrc) (gok_nil))
noncomputable def print_count_l5_s {ρ : Type} (k : Nat) (rc : print_count_R) : Run UX ρ := fun s K =>
popS 1 s.env fun v1 e2 =>
asI .i64 v1 fun high1 =>
popS 5 e2 fun v3 e4 =>
asI .i64 v3 fun n5 =>
popS 17 e4 fun v5 e6 =>
as_l25 v5 fun t17 =>
popS 18 e6 fun v7 e8 =>
asI .i64 v7 fun t18 =>
popS 19 e8 fun v9 e10 =>
asI .i64 v9 fun t19 =>
popN e10 <|
popN s.hp <|
print_count_l5 k rc (fun t4 => K .ret ⟨[(4, .pv (.int .i64 t4))], []⟩) (fun n5 => K (.exit 0) ⟨[(5, .pv (.int .i64 n5))], []⟩) k high1 n5 t17 t18 t19
noncomputable def print_count_j3_s {ρ : Type} (k : Nat) (rc : print_count_R) : Run UX ρ := fun s K =>
popS 1 s.env fun v1 e2 =>
asI .i64 v1 fun high1 =>
popS 2 e2 fun v3 e4 =>
asP 2 0 v3 <|
popN e4 <|
popB 2 s.hp fun c5 e6 =>
popA c5 fun v7 c8 =>
asI .i64 v7 fun z9 =>
popA c8 fun v10 c11 =>
asI .i64 v10 fun z12 =>
popA c11 fun v13 c14 =>
asI .i64 v13 fun z15 =>
popA c14 fun v16 c17 =>
asS v16 fun z18 =>
popA c17 fun v19 c20 =>
asS v19 fun z21 =>
popA c20 fun v22 c23 =>
asS v22 fun z24 =>
popA c23 fun v25 c26 =>
as_l25 v25 fun z27 =>
popN c26 <|
popN e6 <|
print_count_j3 k rc (fun t4 => K .ret ⟨[(4, .pv (.int .i64 t4))], []⟩) high1 (⟨z9, (⟨z12, z15, z18⟩ : S23), z21, z24, z27⟩ : S25)
noncomputable def print_count_cfg {ρ : Type} (k : Nat) (rc : print_count_R) : Cfg UX ρ where
  live i := (assoc [(0, [0, 1]), (1, [1, 2]), (2, []), (3, [1, 2]), (4, [1, 2, 5]), (5, [1, 5, 17, 18, 19]), (6, [1, 5, 17, 18, 19]), (7, [1, 5, 7, 17, 18, 19]), (8, [1, 5, 8, 17, 18, 19]), (9, []), (10, [1, 5, 8, 17, 18, 19]), (11, [1, 5, 17, 18, 19]), (12, [5])] i).getD []
  boxes i := (assoc [(0, []), (1, [2]), (2, []), (3, [2]), (4, [2]), (5, []), (6, []), (7, [7]), (8, []), (9, []), (10, []), (11, []), (12, [])] i).getD []
  tk i := (assoc [] i).getD []
  n := 34
  labelR l := (assoc [] l).getD 0
  loops := assoc [(5, print_count_l5_s k rc)]
  labels := assoc []
  joins := assoc [(3, print_count_j3_s k rc)]
  xl i e := match e with
    | .nxt => assoc [] i
    | .ret => assoc [(5, ([4], [])), (3, ([4], []))] i
    | .exit j => (assoc [(5, [(0, ([5], []))])] i).bind fun l => assoc l j
    | .goto j => (assoc [] i).bind fun l => assoc l j
noncomputable def print_count_L : List Code := selI [5] (loopsOf print_count_code)
noncomputable def print_count_J : List Code := selI [3] (joinsOf print_count_code)
noncomputable def print_count_S : List Code := scopesOf print_count_code
theorem print_count_l5_eq0 {ρ : Type} (k : Nat) (rc : print_count_R) (K : Ex → St UU → Option ρ) : ∀ (n : Nat) (v : Int × Int × (List T25) × Int × Int), iterK UX (fun s => s.at (print_count_cfg (ρ := ρ) k rc).live (print_count_cfg (ρ := ρ) k rc).boxes (some 5)) (exec UX (print_count_cfg k rc) (print_count_G k rc) (print_count_L.getD 0 .skip)) n ⟨[(1, .pv (.int .i64 v.1)), (5, .pv (.int .i64 v.2.1)), (17, .pv (.typ (.l25 v.2.2.1))), (18, .pv (.int .i64 v.2.2.2.1)), (19, .pv (.int .i64 v.2.2.2.2))], []⟩ (nrmK UX (print_count_cfg k rc) 5 K) = print_count_l5 k rc (fun t4 => K .ret ⟨[(4, .pv (.int .i64 t4))], []⟩) (fun n5 => K (.exit 0) ⟨[(5, .pv (.int .i64 n5))], []⟩) n v.1 v.2.1 v.2.2.1 v.2.2.2.1 v.2.2.2.2 :=
  iter_rec (X := UX) (fun v => ⟨[(1, .pv (.int .i64 v.1)), (5, .pv (.int .i64 v.2.1)), (17, .pv (.typ (.l25 v.2.2.1))), (18, .pv (.int .i64 v.2.2.2.1)), (19, .pv (.int .i64 v.2.2.2.2))], []⟩) (fun rec v => print_count_l5_b k rc (fun t4 => K .ret ⟨[(4, .pv (.int .i64 t4))], []⟩) (fun n5 => K (.exit 0) ⟨[(5, .pv (.int .i64 n5))], []⟩) (fun high1 n5 t17 t18 t19 => rec (high1, n5, t17, t18, t19)) v.1 v.2.1 v.2.2.1 v.2.2.2.1 v.2.2.2.2) (fun n v => print_count_l5 k rc (fun t4 => K .ret ⟨[(4, .pv (.int .i64 t4))], []⟩) (fun n5 => K (.exit 0) ⟨[(5, .pv (.int .i64 n5))], []⟩) n v.1 v.2.1 v.2.2.1 v.2.2.2.1 v.2.2.2.2) (fun n v => by kernel_rfl) (fun _ => rfl) (fun _ _ => rfl)
theorem print_count_l5_ok0 {ρ : Type} (k : Nat) (rc : print_count_R) : IterOK UX (print_count_cfg (ρ := ρ) k rc) (print_count_G k rc) (print_count_L.getD 0 .skip) 5 (print_count_l5_s k rc) := by
  intro s K r h
  obtain ⟨env, hp⟩ := s
  unfold print_count_l5_s at h
  replace h := popS_inv h; obtain ⟨v1, e2, rfl, h⟩ := h
  replace h := asI_inv h; obtain ⟨high1, rfl, h⟩ := h
  replace h := popS_inv h; obtain ⟨v3, e4, rfl, h⟩ := h
  replace h := asI_inv h; obtain ⟨n5, rfl, h⟩ := h
  replace h := popS_inv h; obtain ⟨v5, e6, rfl, h⟩ := h
  replace h := as_l25_inv h; obtain ⟨t17, rfl, h⟩ := h
  replace h := popS_inv h; obtain ⟨v7, e8, rfl, h⟩ := h
  replace h := asI_inv h; obtain ⟨t18, rfl, h⟩ := h
  replace h := popS_inv h; obtain ⟨v9, e10, rfl, h⟩ := h
  replace h := asI_inv h; obtain ⟨t19, rfl, h⟩ := h
  replace h := popN_inv h; obtain ⟨rfl, h⟩ := h
  replace h := popN_inv h; obtain ⟨rfl, h⟩ := h
  exact ⟨k, (print_count_l5_eq0 k rc K k (high1, n5, t17, t18, t19)).trans h⟩
theorem print_count_j3_eq0 {ρ : Type} (k : Nat) (rc : print_count_R) (K : Ex → St UU → Option ρ) (high1 : Int) (e2 : S25) : exec UX (print_count_cfg k rc) (print_count_G k rc) (print_count_J.getD 0 .skip) ⟨[(1, .pv (.int .i64 high1)), (2, .ptr 2 0)], [(2, [.pv (.int .i64 e2.f0), .pv (.int .i64 e2.f1.f0), .pv (.int .i64 e2.f1.f1), .pv (.str e2.f1.f2), .pv (.str e2.f2), .pv (.str e2.f3), .pv (.typ (.l25 e2.f4))])]⟩ (nrmK UX (print_count_cfg k rc) 3 K) = print_count_j3 k rc (fun t4 => K .ret ⟨[(4, .pv (.int .i64 t4))], []⟩) high1 e2 := by kernel_rfl
theorem print_count_j3_ok0 {ρ : Type} (k : Nat) (rc : print_count_R) : JoinOK UX (print_count_cfg (ρ := ρ) k rc) (print_count_G k rc) (print_count_J.getD 0 .skip) 3 (print_count_j3_s k rc) := by
  intro s K r h
  obtain ⟨env, hp⟩ := s
  unfold print_count_j3_s at h
  replace h := popS_inv h; obtain ⟨v1, e2, rfl, h⟩ := h
  replace h := asI_inv h; obtain ⟨high1, rfl, h⟩ := h
  replace h := popS_inv h; obtain ⟨v3, e4, rfl, h⟩ := h
  replace h := asP_inv h; obtain ⟨rfl, h⟩ := h
  replace h := popN_inv h; obtain ⟨rfl, h⟩ := h
  replace h := popB_inv h; obtain ⟨c5, e6, rfl, h⟩ := h
  replace h := popA_inv h; obtain ⟨v7, c8, rfl, h⟩ := h
  replace h := asI_inv h; obtain ⟨z9, rfl, h⟩ := h
  replace h := popA_inv h; obtain ⟨v10, c11, rfl, h⟩ := h
  replace h := asI_inv h; obtain ⟨z12, rfl, h⟩ := h
  replace h := popA_inv h; obtain ⟨v13, c14, rfl, h⟩ := h
  replace h := asI_inv h; obtain ⟨z15, rfl, h⟩ := h
  replace h := popA_inv h; obtain ⟨v16, c17, rfl, h⟩ := h
  replace h := asS_inv h; obtain ⟨z18, rfl, h⟩ := h
  replace h := popA_inv h; obtain ⟨v19, c20, rfl, h⟩ := h
  replace h := asS_inv h; obtain ⟨z21, rfl, h⟩ := h
  replace h := popA_inv h; obtain ⟨v22, c23, rfl, h⟩ := h
  replace h := asS_inv h; obtain ⟨z24, rfl, h⟩ := h
  replace h := popA_inv h; obtain ⟨v25, c26, rfl, h⟩ := h
  replace h := as_l25_inv h; obtain ⟨z27, rfl, h⟩ := h
  replace h := popN_inv h; obtain ⟨rfl, h⟩ := h
  replace h := popN_inv h; obtain ⟨rfl, h⟩ := h
  exact (print_count_j3_eq0 k rc K high1 (⟨z9, (⟨z12, z15, z18⟩ : S23), z21, z24, z27⟩ : S25)).trans h
theorem print_count_cok {ρ : Type} (k : Nat) (rc : print_count_R) : COK (print_count_cfg (ρ := ρ) k rc) (print_count_G k rc) print_count_code :=
  cok_of (tl := [(5, print_count_l5_s k rc)]) (tj := [(3, print_count_j3_s k rc)]) (tb := []) rfl rfl rfl (all_nth 1 (by kernel_rfl) ⟨iter_case (by kernel_rfl) rfl (print_count_l5_ok0 k rc), trivial⟩) (all_nth 1 (by kernel_rfl) ⟨join_case (by kernel_rfl) rfl (print_count_j3_ok0 k rc), trivial⟩) (fun p hp => by cases hp)
noncomputable def print_count_dec (v : AV UU) (_ : List (List (AV UU))) : Option Int :=
asI .i64 v fun r0 =>
some r0
theorem print_count_dec_enc (v : AV UU) (b : List (List (AV UU))) (r : Int) (h : print_count_dec v b = some r) : v = print_count_enc r := by
  unfold print_count_dec at h
  replace h := asI_inv h; obtain ⟨r0, rfl, h⟩ := h
  cases h
  rfl
theorem print_count_eq (k : Nat) (rc : print_count_R) (e0 : S25) (high1 : Int) : bodyK UX (print_count_cfg k rc) (print_count_G k rc) Tryd.f27 [.pv (.typ (.s25 e0)), .pv (.int .i64 high1)] [] print_count_dec = print_count_r k rc e0 high1 := by kernel_rfl
theorem print_count_con_r (k : Nat) (rc : print_count_R) (hrc : print_count_R_ok rc) (e0 : S25) (high1 : Int) (r : Int) (h : print_count_r k rc e0 high1 = some r) : Con (X := UX) Tryd.prog 27 [.pv (.typ (.s25 e0)), .pv (.int .i64 high1)] [] (print_count_enc r) [] :=
  con_of_body xok tok Tryd.func27 print_count_body (print_count_gok k rc hrc) rfl (print_count_cok k rc) (of_decide_eq_true (by kernel_rfl)) print_count_dec_enc ((print_count_eq k rc e0 high1).trans h)
theorem print_count_R_itok (k : Nat) : ∀ d, print_count_R_ok (print_count_R_it k d)
  | 0 => ⟨fun e0 high1 r h => by have e : (none : Option Int) = some r := h; cases e⟩
  | d + 1 => ⟨fun e0 high1 r h => print_count_con_r k (print_count_R_it k d) (print_count_R_itok k d) e0 high1 r h⟩
theorem print_count_con (k : Nat) (e0 : S25) (high1 : Int) (r : Int) (h : print_count k e0 high1 = some r) : Con (X := UX) Tryd.prog 27 [.pv (.typ (.s25 e0)), .pv (.int .i64 high1)] [] (print_count_enc r) [] := (print_count_R_itok k k).print_count e0 high1 r h
noncomputable def print_count_an {ρ : Type} (k : Nat) : An UX ρ := fun args bx K =>
popA args fun v1 a2 =>
as_s25 v1 fun e0 =>
popA a2 fun v3 a4 =>
asI .i64 v3 fun high1 =>
popN a4 <|
popN bx <|
(print_count k e0 high1).bind fun r => K (print_count_enc r) []
theorem print_count_ok {ρ : Type} (k : Nat) : AnsOK Tryd.prog 27 (print_count_an (ρ := ρ) k) := by
  intro args bx K r h
  unfold print_count_an at h
  replace h := popA_inv h; obtain ⟨v1, a2, rfl, h⟩ := h
  replace h := as_s25_inv h; obtain ⟨e0, rfl, h⟩ := h
  replace h := popA_inv h; obtain ⟨v3, a4, rfl, h⟩ := h
  replace h := asI_inv h; obtain ⟨high1, rfl, h⟩ := h
  replace h := popN_inv h; obtain ⟨rfl, h⟩ := h
  replace h := popN_inv h; obtain ⟨rfl, h⟩ := h
  replace h := bind_inv h
  obtain ⟨x, hx, h⟩ := h
  exact ⟨there_of Tryd.func27 (by kernel_rfl) print_count_body, _, _, h, print_count_con k e0 high1 x hx⟩

/-! cadastre/print.Good -/
noncomputable def print_Good_code : Code := match Tryd.f18.body with | some c => c | none => .skip
theorem print_Good_body : Tryd.f18.body = some print_Good_code := by kernel_rfl
noncomputable def print_Good_G {ρ : Type} (k : Nat) : Ans UX ρ := gk 27 (print_count_an k) (gnil)
theorem print_Good_gok {ρ : Type} (k : Nat) : GOK Tryd.prog (print_Good_G (ρ := ρ) k) := gok_cons (print_count_ok k) (gok_nil)
noncomputable def print_Good_cfg {ρ : Type} (k : Nat) : Cfg UX ρ where
  live i := (assoc [(0, [0]), (1, [1]), (2, [3])] i).getD []
  boxes i := (assoc [(0, []), (1, [1]), (2, [])] i).getD []
  tk i := (assoc [] i).getD []
  n := 12
  labelR l := (assoc [] l).getD 0
  loops := assoc []
  labels := assoc []
  joins := assoc []
  xl i e := match e with
    | .nxt => assoc [] i
    | .ret => assoc [] i
    | .exit j => (assoc [] i).bind fun l => assoc l j
    | .goto j => (assoc [] i).bind fun l => assoc l j
noncomputable def print_Good_L : List Code := selI [] (loopsOf print_Good_code)
noncomputable def print_Good_J : List Code := selI [] (joinsOf print_Good_code)
noncomputable def print_Good_S : List Code := scopesOf print_Good_code
theorem print_Good_cok {ρ : Type} (k : Nat) : COK (print_Good_cfg (ρ := ρ) k) (print_Good_G k) print_Good_code :=
  cok_of (tl := []) (tj := []) (tb := []) rfl rfl rfl (nil_all (by kernel_rfl)) (nil_all (by kernel_rfl)) (fun p hp => by cases hp)
noncomputable def print_Good_enc (r : Bool) : AV UU := .pv (.bool r)
noncomputable def print_Good_dec (v : AV UU) (_ : List (List (AV UU))) : Option Bool :=
asB v fun r0 =>
some r0
theorem print_Good_dec_enc (v : AV UU) (b : List (List (AV UU))) (r : Bool) (h : print_Good_dec v b = some r) : v = print_Good_enc r := by
  unfold print_Good_dec at h
  replace h := asB_inv h; obtain ⟨r0, rfl, h⟩ := h
  cases h
  rfl
theorem print_Good_eq (k : Nat) (e0 : S25) : bodyK UX (print_Good_cfg k) (print_Good_G k) Tryd.f18 [.pv (.typ (.s25 e0))] [] print_Good_dec = print_Good k e0 := by kernel_rfl
theorem print_Good_con (k : Nat) (e0 : S25) (r : Bool) (h : print_Good k e0 = some r) : Con (X := UX) Tryd.prog 18 [.pv (.typ (.s25 e0))] [] (print_Good_enc r) [] :=
  con_of_body xok tok Tryd.func18 print_Good_body (print_Good_gok k) rfl (print_Good_cok k) (of_decide_eq_true (by kernel_rfl)) print_Good_dec_enc ((print_Good_eq k e0).trans h)
noncomputable def print_Good_an {ρ : Type} (k : Nat) : An UX ρ := fun args bx K =>
popA args fun v1 a2 =>
as_s25 v1 fun e0 =>
popN a2 <|
popN bx <|
(print_Good k e0).bind fun r => K (print_Good_enc r) []
theorem print_Good_ok {ρ : Type} (k : Nat) : AnsOK Tryd.prog 18 (print_Good_an (ρ := ρ) k) := by
  intro args bx K r h
  unfold print_Good_an at h
  replace h := popA_inv h; obtain ⟨v1, a2, rfl, h⟩ := h
  replace h := as_s25_inv h; obtain ⟨e0, rfl, h⟩ := h
  replace h := popN_inv h; obtain ⟨rfl, h⟩ := h
  replace h := popN_inv h; obtain ⟨rfl, h⟩ := h
  replace h := bind_inv h
  obtain ⟨x, hx, h⟩ := h
  exact ⟨there_of Tryd.func18 (by kernel_rfl) print_Good_body, _, _, h, print_Good_con k e0 x hx⟩

/-! cadastre/eval.Good -/
noncomputable def eval_Good_code : Code := match Tryd.f39.body with | some c => c | none => .skip
theorem eval_Good_body : Tryd.f39.body = some eval_Good_code := by kernel_rfl
noncomputable def eval_Good_G {ρ : Type} (k : Nat) : Ans UX ρ := gk 62 (bind_Low_an k) (gk 63 (eval_places_an k) (gk 64 (bind_Plain_an k) (gk 18 (print_Good_an k) (gnil))))
theorem eval_Good_gok {ρ : Type} (k : Nat) : GOK Tryd.prog (eval_Good_G (ρ := ρ) k) := gok_cons (bind_Low_ok k) (gok_cons (eval_places_ok k) (gok_cons (bind_Plain_ok k) (gok_cons (print_Good_ok k) (gok_nil))))
noncomputable def eval_Good_cfg {ρ : Type} (k : Nat) : Cfg UX ρ where
  live i := (assoc [(0, [0, 1]), (1, [1, 2])] i).getD []
  boxes i := (assoc [(0, []), (1, [2])] i).getD []
  tk i := (assoc [] i).getD []
  n := 17
  labelR l := (assoc [] l).getD 0
  loops := assoc []
  labels := assoc []
  joins := assoc []
  xl i e := match e with
    | .nxt => assoc [] i
    | .ret => assoc [] i
    | .exit j => (assoc [] i).bind fun l => assoc l j
    | .goto j => (assoc [] i).bind fun l => assoc l j
noncomputable def eval_Good_L : List Code := selI [] (loopsOf eval_Good_code)
noncomputable def eval_Good_J : List Code := selI [] (joinsOf eval_Good_code)
noncomputable def eval_Good_S : List Code := scopesOf eval_Good_code
theorem eval_Good_cok {ρ : Type} (k : Nat) : COK (eval_Good_cfg (ρ := ρ) k) (eval_Good_G k) eval_Good_code :=
  cok_of (tl := []) (tj := []) (tb := []) rfl rfl rfl (nil_all (by kernel_rfl)) (nil_all (by kernel_rfl)) (fun p hp => by cases hp)
noncomputable def eval_Good_enc (r : Bool) : AV UU := .pv (.bool r)
noncomputable def eval_Good_dec (v : AV UU) (_ : List (List (AV UU))) : Option Bool :=
asB v fun r0 =>
some r0
theorem eval_Good_dec_enc (v : AV UU) (b : List (List (AV UU))) (r : Bool) (h : eval_Good_dec v b = some r) : v = eval_Good_enc r := by
  unfold eval_Good_dec at h
  replace h := asB_inv h; obtain ⟨r0, rfl, h⟩ := h
  cases h
  rfl
theorem eval_Good_eq (k : Nat) (e0 : S25) (n1 : Int) : bodyK UX (eval_Good_cfg k) (eval_Good_G k) Tryd.f39 [.pv (.typ (.s25 e0)), .pv (.int .i64 n1)] [] eval_Good_dec = eval_Good k e0 n1 := by kernel_rfl
theorem eval_Good_con (k : Nat) (e0 : S25) (n1 : Int) (r : Bool) (h : eval_Good k e0 n1 = some r) : Con (X := UX) Tryd.prog 39 [.pv (.typ (.s25 e0)), .pv (.int .i64 n1)] [] (eval_Good_enc r) [] :=
  con_of_body xok tok Tryd.func39 eval_Good_body (eval_Good_gok k) rfl (eval_Good_cok k) (of_decide_eq_true (by kernel_rfl)) eval_Good_dec_enc ((eval_Good_eq k e0 n1).trans h)
noncomputable def eval_Good_an {ρ : Type} (k : Nat) : An UX ρ := fun args bx K =>
popA args fun v1 a2 =>
as_s25 v1 fun e0 =>
popA a2 fun v3 a4 =>
asI .i64 v3 fun n1 =>
popN a4 <|
popN bx <|
(eval_Good k e0 n1).bind fun r => K (eval_Good_enc r) []
theorem eval_Good_ok {ρ : Type} (k : Nat) : AnsOK Tryd.prog 39 (eval_Good_an (ρ := ρ) k) := by
  intro args bx K r h
  unfold eval_Good_an at h
  replace h := popA_inv h; obtain ⟨v1, a2, rfl, h⟩ := h
  replace h := as_s25_inv h; obtain ⟨e0, rfl, h⟩ := h
  replace h := popA_inv h; obtain ⟨v3, a4, rfl, h⟩ := h
  replace h := asI_inv h; obtain ⟨n1, rfl, h⟩ := h
  replace h := popN_inv h; obtain ⟨rfl, h⟩ := h
  replace h := popN_inv h; obtain ⟨rfl, h⟩ := h
  replace h := bind_inv h
  obtain ⟨x, hx, h⟩ := h
  exact ⟨there_of Tryd.func39 (by kernel_rfl) eval_Good_body, _, _, h, eval_Good_con k e0 n1 x hx⟩

/-! cadastre/eval.may -/
noncomputable def eval_may_code : Code := match Tryd.f23.body with | some c => c | none => .skip
theorem eval_may_body : Tryd.f23.body = some eval_may_code := by kernel_rfl
noncomputable def eval_may_G {ρ : Type} (k : Nat) : Ans UX ρ := gk 38 (value_All_an k) (gk 39 (eval_Good_an k) (gnil))
theorem eval_may_gok {ρ : Type} (k : Nat) : GOK Tryd.prog (eval_may_G (ρ := ρ) k) := gok_cons (value_All_ok k) (gok_cons (eval_Good_ok k) (gok_nil))
noncomputable def eval_may_cfg {ρ : Type} (k : Nat) : Cfg UX ρ where
  live i := (assoc [(0, [0, 1]), (1, [1, 2])] i).getD []
  boxes i := (assoc [(0, []), (1, [2])] i).getD []
  tk i := (assoc [] i).getD []
  n := 13
  labelR l := (assoc [] l).getD 0
  loops := assoc []
  labels := assoc []
  joins := assoc []
  xl i e := match e with
    | .nxt => assoc [] i
    | .ret => assoc [] i
    | .exit j => (assoc [] i).bind fun l => assoc l j
    | .goto j => (assoc [] i).bind fun l => assoc l j
noncomputable def eval_may_L : List Code := selI [] (loopsOf eval_may_code)
noncomputable def eval_may_J : List Code := selI [] (joinsOf eval_may_code)
noncomputable def eval_may_S : List Code := scopesOf eval_may_code
theorem eval_may_cok {ρ : Type} (k : Nat) : COK (eval_may_cfg (ρ := ρ) k) (eval_may_G k) eval_may_code :=
  cok_of (tl := []) (tj := []) (tb := []) rfl rfl rfl (nil_all (by kernel_rfl)) (nil_all (by kernel_rfl)) (fun p hp => by cases hp)
noncomputable def eval_may_enc (r : Bool) : AV UU := .pv (.bool r)
noncomputable def eval_may_dec (v : AV UU) (_ : List (List (AV UU))) : Option Bool :=
asB v fun r0 =>
some r0
theorem eval_may_dec_enc (v : AV UU) (b : List (List (AV UU))) (r : Bool) (h : eval_may_dec v b = some r) : v = eval_may_enc r := by
  unfold eval_may_dec at h
  replace h := asB_inv h; obtain ⟨r0, rfl, h⟩ := h
  cases h
  rfl
theorem eval_may_eq (k : Nat) (e0 : S25) (row1 : List S23) : bodyK UX (eval_may_cfg k) (eval_may_G k) Tryd.f23 [.pv (.typ (.s25 e0)), .pv (.typ (.l23 row1))] [] eval_may_dec = eval_may k e0 row1 := by kernel_rfl
theorem eval_may_con (k : Nat) (e0 : S25) (row1 : List S23) (r : Bool) (h : eval_may k e0 row1 = some r) : Con (X := UX) Tryd.prog 23 [.pv (.typ (.s25 e0)), .pv (.typ (.l23 row1))] [] (eval_may_enc r) [] :=
  con_of_body xok tok Tryd.func23 eval_may_body (eval_may_gok k) rfl (eval_may_cok k) (of_decide_eq_true (by kernel_rfl)) eval_may_dec_enc ((eval_may_eq k e0 row1).trans h)
noncomputable def eval_may_an {ρ : Type} (k : Nat) : An UX ρ := fun args bx K =>
popA args fun v1 a2 =>
as_s25 v1 fun e0 =>
popA a2 fun v3 a4 =>
as_l23 v3 fun row1 =>
popN a4 <|
popN bx <|
(eval_may k e0 row1).bind fun r => K (eval_may_enc r) []
theorem eval_may_ok {ρ : Type} (k : Nat) : AnsOK Tryd.prog 23 (eval_may_an (ρ := ρ) k) := by
  intro args bx K r h
  unfold eval_may_an at h
  replace h := popA_inv h; obtain ⟨v1, a2, rfl, h⟩ := h
  replace h := as_s25_inv h; obtain ⟨e0, rfl, h⟩ := h
  replace h := popA_inv h; obtain ⟨v3, a4, rfl, h⟩ := h
  replace h := as_l23_inv h; obtain ⟨row1, rfl, h⟩ := h
  replace h := popN_inv h; obtain ⟨rfl, h⟩ := h
  replace h := popN_inv h; obtain ⟨rfl, h⟩ := h
  replace h := bind_inv h
  obtain ⟨x, hx, h⟩ := h
  exact ⟨there_of Tryd.func23 (by kernel_rfl) eval_may_body, _, _, h, eval_may_con k e0 row1 x hx⟩

/-! cadastre/value.Int -/
noncomputable def value_Int_code : Code := match Tryd.f96.body with | some c => c | none => .skip
theorem value_Int_body : Tryd.f96.body = some value_Int_code := by kernel_rfl
noncomputable def value_Int_G {ρ : Type} (k : Nat) : Ans UX ρ := gnil
theorem value_Int_gok {ρ : Type} (k : Nat) : GOK Tryd.prog (value_Int_G (ρ := ρ) k) := gok_nil
noncomputable def value_Int_cfg {ρ : Type} (k : Nat) : Cfg UX ρ where
  live i := (assoc [(0, [0]), (1, [0, 2])] i).getD []
  boxes i := (assoc [(0, []), (1, [2])] i).getD []
  tk i := (assoc [] i).getD []
  n := 5
  labelR l := (assoc [] l).getD 0
  loops := assoc []
  labels := assoc []
  joins := assoc []
  xl i e := match e with
    | .nxt => assoc [] i
    | .ret => assoc [] i
    | .exit j => (assoc [] i).bind fun l => assoc l j
    | .goto j => (assoc [] i).bind fun l => assoc l j
noncomputable def value_Int_L : List Code := selI [] (loopsOf value_Int_code)
noncomputable def value_Int_J : List Code := selI [] (joinsOf value_Int_code)
noncomputable def value_Int_S : List Code := scopesOf value_Int_code
theorem value_Int_cok {ρ : Type} (k : Nat) : COK (value_Int_cfg (ρ := ρ) k) (value_Int_G k) value_Int_code :=
  cok_of (tl := []) (tj := []) (tb := []) rfl rfl rfl (nil_all (by kernel_rfl)) (nil_all (by kernel_rfl)) (fun p hp => by cases hp)
noncomputable def value_Int_enc (r : S23) : AV UU := .pv (.typ (.s23 r))
noncomputable def value_Int_dec (v : AV UU) (_ : List (List (AV UU))) : Option S23 :=
as_s23 v fun r0 =>
some r0
theorem value_Int_dec_enc (v : AV UU) (b : List (List (AV UU))) (r : S23) (h : value_Int_dec v b = some r) : v = value_Int_enc r := by
  unfold value_Int_dec at h
  replace h := as_s23_inv h; obtain ⟨r0, rfl, h⟩ := h
  cases h
  rfl
theorem value_Int_eq (k : Nat) (n0 : Int) : bodyK UX (value_Int_cfg k) (value_Int_G k) Tryd.f96 [.pv (.int .i64 n0)] [] value_Int_dec = value_Int k n0 := by kernel_rfl
theorem value_Int_con (k : Nat) (n0 : Int) (r : S23) (h : value_Int k n0 = some r) : Con (X := UX) Tryd.prog 96 [.pv (.int .i64 n0)] [] (value_Int_enc r) [] :=
  con_of_body xok tok Tryd.func96 value_Int_body (value_Int_gok k) rfl (value_Int_cok k) (of_decide_eq_true (by kernel_rfl)) value_Int_dec_enc ((value_Int_eq k n0).trans h)
noncomputable def value_Int_an {ρ : Type} (k : Nat) : An UX ρ := fun args bx K =>
popA args fun v1 a2 =>
asI .i64 v1 fun n0 =>
popN a2 <|
popN bx <|
(value_Int k n0).bind fun r => K (value_Int_enc r) []
theorem value_Int_ok {ρ : Type} (k : Nat) : AnsOK Tryd.prog 96 (value_Int_an (ρ := ρ) k) := by
  intro args bx K r h
  unfold value_Int_an at h
  replace h := popA_inv h; obtain ⟨v1, a2, rfl, h⟩ := h
  replace h := asI_inv h; obtain ⟨n0, rfl, h⟩ := h
  replace h := popN_inv h; obtain ⟨rfl, h⟩ := h
  replace h := popN_inv h; obtain ⟨rfl, h⟩ := h
  replace h := bind_inv h
  obtain ⟨x, hx, h⟩ := h
  exact ⟨there_of Tryd.func96 (by kernel_rfl) value_Int_body, _, _, h, value_Int_con k n0 x hx⟩

/-! cadastre/arith.Neg -/
noncomputable def arith_Neg_code : Code := match Tryd.f65.body with | some c => c | none => .skip
theorem arith_Neg_body : Tryd.f65.body = some arith_Neg_code := by kernel_rfl
noncomputable def arith_Neg_G {ρ : Type} (k : Nat) : Ans UX ρ := gk 61 (value_Good_an k) (gk 96 (value_Int_an k) (gnil))
theorem arith_Neg_gok {ρ : Type} (k : Nat) : GOK Tryd.prog (arith_Neg_G (ρ := ρ) k) := gok_cons (value_Good_ok k) (gok_cons (value_Int_ok k) (gok_nil))
noncomputable def arith_Neg_cfg {ρ : Type} (k : Nat) : Cfg UX ρ where
  live i := (assoc [(0, [0]), (1, [1, 2]), (2, [2]), (3, [1, 2]), (4, [1, 2]), (5, [1, 2]), (6, [2]), (7, [1, 2]), (8, [2]), (9, [1, 2])] i).getD []
  boxes i := (assoc [(0, []), (1, [1, 2]), (2, [2]), (3, [1, 2]), (4, [1, 2]), (5, [1, 2]), (6, [2]), (7, [1, 2]), (8, [2]), (9, [1, 2])] i).getD []
  tk i := (assoc [] i).getD []
  n := 28
  labelR l := (assoc [] l).getD 0
  loops := assoc []
  labels := assoc []
  joins := assoc []
  xl i e := match e with
    | .nxt => assoc [] i
    | .ret => assoc [] i
    | .exit j => (assoc [] i).bind fun l => assoc l j
    | .goto j => (assoc [] i).bind fun l => assoc l j
noncomputable def arith_Neg_L : List Code := selI [] (loopsOf arith_Neg_code)
noncomputable def arith_Neg_J : List Code := selI [] (joinsOf arith_Neg_code)
noncomputable def arith_Neg_S : List Code := scopesOf arith_Neg_code
theorem arith_Neg_cok {ρ : Type} (k : Nat) : COK (arith_Neg_cfg (ρ := ρ) k) (arith_Neg_G k) arith_Neg_code :=
  cok_of (tl := []) (tj := []) (tb := []) rfl rfl rfl (nil_all (by kernel_rfl)) (nil_all (by kernel_rfl)) (fun p hp => by cases hp)
noncomputable def arith_Neg_enc (r : S23 × Int) : AV UU := .pv (.tup [.typ (.s23 r.1), .int .i64 r.2])
noncomputable def arith_Neg_dec (v : AV UU) (_ : List (List (AV UU))) : Option (S23 × Int) :=
asT v fun q1 =>
popA q1 fun p2 q3 =>
as_s23 (.pv p2) fun r0 =>
popA q3 fun p4 q5 =>
asI .i64 (.pv p4) fun r1 =>
popN q5 <|
some (r0, r1)
theorem arith_Neg_dec_enc (v : AV UU) (b : List (List (AV UU))) (r : S23 × Int) (h : arith_Neg_dec v b = some r) : v = arith_Neg_enc r := by
  unfold arith_Neg_dec at h
  replace h := asT_inv h; obtain ⟨q1, rfl, h⟩ := h
  replace h := popA_inv h; obtain ⟨p2, q3, rfl, h⟩ := h
  replace h := as_s23_inv h; obtain ⟨r0, e, h⟩ := h; cases e
  replace h := popA_inv h; obtain ⟨p4, q5, rfl, h⟩ := h
  replace h := asI_inv h; obtain ⟨r1, e, h⟩ := h; cases e
  replace h := popN_inv h; obtain ⟨rfl, h⟩ := h
  cases h
  rfl
theorem arith_Neg_eq (k : Nat) (v0 : S23) : bodyK UX (arith_Neg_cfg k) (arith_Neg_G k) Tryd.f65 [.pv (.typ (.s23 v0))] [] arith_Neg_dec = arith_Neg k v0 := by kernel_rfl
theorem arith_Neg_con (k : Nat) (v0 : S23) (r : S23 × Int) (h : arith_Neg k v0 = some r) : Con (X := UX) Tryd.prog 65 [.pv (.typ (.s23 v0))] [] (arith_Neg_enc r) [] :=
  con_of_body xok tok Tryd.func65 arith_Neg_body (arith_Neg_gok k) rfl (arith_Neg_cok k) (of_decide_eq_true (by kernel_rfl)) arith_Neg_dec_enc ((arith_Neg_eq k v0).trans h)
noncomputable def arith_Neg_an {ρ : Type} (k : Nat) : An UX ρ := fun args bx K =>
popA args fun v1 a2 =>
as_s23 v1 fun v0 =>
popN a2 <|
popN bx <|
(arith_Neg k v0).bind fun r => K (arith_Neg_enc r) []
theorem arith_Neg_ok {ρ : Type} (k : Nat) : AnsOK Tryd.prog 65 (arith_Neg_an (ρ := ρ) k) := by
  intro args bx K r h
  unfold arith_Neg_an at h
  replace h := popA_inv h; obtain ⟨v1, a2, rfl, h⟩ := h
  replace h := as_s23_inv h; obtain ⟨v0, rfl, h⟩ := h
  replace h := popN_inv h; obtain ⟨rfl, h⟩ := h
  replace h := popN_inv h; obtain ⟨rfl, h⟩ := h
  replace h := bind_inv h
  obtain ⟨x, hx, h⟩ := h
  exact ⟨there_of Tryd.func65 (by kernel_rfl) arith_Neg_body, _, _, h, arith_Neg_con k v0 x hx⟩

/-! cadastre/logic.truth -/
noncomputable def logic_truth_code : Code := match Tryd.f74.body with | some c => c | none => .skip
theorem logic_truth_body : Tryd.f74.body = some logic_truth_code := by kernel_rfl
noncomputable def logic_truth_G {ρ : Type} (k : Nat) : Ans UX ρ := gk 61 (value_Good_an k) (gnil)
theorem logic_truth_gok {ρ : Type} (k : Nat) : GOK Tryd.prog (logic_truth_G (ρ := ρ) k) := gok_cons (value_Good_ok k) (gok_nil)
noncomputable def logic_truth_cfg {ρ : Type} (k : Nat) : Cfg UX ρ where
  live i := (assoc [(0, [0]), (1, [1]), (2, []), (3, [1]), (4, []), (5, [1]), (6, []), (7, [1]), (8, []), (9, [])] i).getD []
  boxes i := (assoc [(0, []), (1, [1]), (2, []), (3, [1]), (4, []), (5, [1]), (6, []), (7, [1]), (8, []), (9, [])] i).getD []
  tk i := (assoc [] i).getD []
  n := 20
  labelR l := (assoc [] l).getD 0
  loops := assoc []
  labels := assoc []
  joins := assoc []
  xl i e := match e with
    | .nxt => assoc [] i
    | .ret => assoc [] i
    | .exit j => (assoc [] i).bind fun l => assoc l j
    | .goto j => (assoc [] i).bind fun l => assoc l j
noncomputable def logic_truth_L : List Code := selI [] (loopsOf logic_truth_code)
noncomputable def logic_truth_J : List Code := selI [] (joinsOf logic_truth_code)
noncomputable def logic_truth_S : List Code := scopesOf logic_truth_code
theorem logic_truth_cok {ρ : Type} (k : Nat) : COK (logic_truth_cfg (ρ := ρ) k) (logic_truth_G k) logic_truth_code :=
  cok_of (tl := []) (tj := []) (tb := []) rfl rfl rfl (nil_all (by kernel_rfl)) (nil_all (by kernel_rfl)) (fun p hp => by cases hp)
noncomputable def logic_truth_enc (r : Int × Int) : AV UU := .pv (.tup [.int .i64 r.1, .int .i64 r.2])
noncomputable def logic_truth_dec (v : AV UU) (_ : List (List (AV UU))) : Option (Int × Int) :=
asT v fun q1 =>
popA q1 fun p2 q3 =>
asI .i64 (.pv p2) fun r0 =>
popA q3 fun p4 q5 =>
asI .i64 (.pv p4) fun r1 =>
popN q5 <|
some (r0, r1)
theorem logic_truth_dec_enc (v : AV UU) (b : List (List (AV UU))) (r : Int × Int) (h : logic_truth_dec v b = some r) : v = logic_truth_enc r := by
  unfold logic_truth_dec at h
  replace h := asT_inv h; obtain ⟨q1, rfl, h⟩ := h
  replace h := popA_inv h; obtain ⟨p2, q3, rfl, h⟩ := h
  replace h := asI_inv h; obtain ⟨r0, e, h⟩ := h; cases e
  replace h := popA_inv h; obtain ⟨p4, q5, rfl, h⟩ := h
  replace h := asI_inv h; obtain ⟨r1, e, h⟩ := h; cases e
  replace h := popN_inv h; obtain ⟨rfl, h⟩ := h
  cases h
  rfl
theorem logic_truth_eq (k : Nat) (v0 : S23) : bodyK UX (logic_truth_cfg k) (logic_truth_G k) Tryd.f74 [.pv (.typ (.s23 v0))] [] logic_truth_dec = logic_truth k v0 := by kernel_rfl
theorem logic_truth_con (k : Nat) (v0 : S23) (r : Int × Int) (h : logic_truth k v0 = some r) : Con (X := UX) Tryd.prog 74 [.pv (.typ (.s23 v0))] [] (logic_truth_enc r) [] :=
  con_of_body xok tok Tryd.func74 logic_truth_body (logic_truth_gok k) rfl (logic_truth_cok k) (of_decide_eq_true (by kernel_rfl)) logic_truth_dec_enc ((logic_truth_eq k v0).trans h)
noncomputable def logic_truth_an {ρ : Type} (k : Nat) : An UX ρ := fun args bx K =>
popA args fun v1 a2 =>
as_s23 v1 fun v0 =>
popN a2 <|
popN bx <|
(logic_truth k v0).bind fun r => K (logic_truth_enc r) []
theorem logic_truth_ok {ρ : Type} (k : Nat) : AnsOK Tryd.prog 74 (logic_truth_an (ρ := ρ) k) := by
  intro args bx K r h
  unfold logic_truth_an at h
  replace h := popA_inv h; obtain ⟨v1, a2, rfl, h⟩ := h
  replace h := as_s23_inv h; obtain ⟨v0, rfl, h⟩ := h
  replace h := popN_inv h; obtain ⟨rfl, h⟩ := h
  replace h := popN_inv h; obtain ⟨rfl, h⟩ := h
  replace h := bind_inv h
  obtain ⟨x, hx, h⟩ := h
  exact ⟨there_of Tryd.func74 (by kernel_rfl) logic_truth_body, _, _, h, logic_truth_con k v0 x hx⟩

/-! cadastre/logic.answer -/
noncomputable def logic_answer_code : Code := match Tryd.f97.body with | some c => c | none => .skip
theorem logic_answer_body : Tryd.f97.body = some logic_answer_code := by kernel_rfl
noncomputable def logic_answer_G {ρ : Type} (k : Nat) : Ans UX ρ := gk 96 (value_Int_an k) (gnil)
theorem logic_answer_gok {ρ : Type} (k : Nat) : GOK Tryd.prog (logic_answer_G (ρ := ρ) k) := gok_cons (value_Int_ok k) (gok_nil)
noncomputable def logic_answer_cfg {ρ : Type} (k : Nat) : Cfg UX ρ where
  live i := (assoc [(0, [0]), (1, [0, 2])] i).getD []
  boxes i := (assoc [(0, []), (1, [2])] i).getD []
  tk i := (assoc [] i).getD []
  n := 10
  labelR l := (assoc [] l).getD 0
  loops := assoc []
  labels := assoc []
  joins := assoc []
  xl i e := match e with
    | .nxt => assoc [] i
    | .ret => assoc [] i
    | .exit j => (assoc [] i).bind fun l => assoc l j
    | .goto j => (assoc [] i).bind fun l => assoc l j
noncomputable def logic_answer_L : List Code := selI [] (loopsOf logic_answer_code)
noncomputable def logic_answer_J : List Code := selI [] (joinsOf logic_answer_code)
noncomputable def logic_answer_S : List Code := scopesOf logic_answer_code
theorem logic_answer_cok {ρ : Type} (k : Nat) : COK (logic_answer_cfg (ρ := ρ) k) (logic_answer_G k) logic_answer_code :=
  cok_of (tl := []) (tj := []) (tb := []) rfl rfl rfl (nil_all (by kernel_rfl)) (nil_all (by kernel_rfl)) (fun p hp => by cases hp)
noncomputable def logic_answer_enc (r : S23) : AV UU := .pv (.typ (.s23 r))
noncomputable def logic_answer_dec (v : AV UU) (_ : List (List (AV UU))) : Option S23 :=
as_s23 v fun r0 =>
some r0
theorem logic_answer_dec_enc (v : AV UU) (b : List (List (AV UU))) (r : S23) (h : logic_answer_dec v b = some r) : v = logic_answer_enc r := by
  unfold logic_answer_dec at h
  replace h := as_s23_inv h; obtain ⟨r0, rfl, h⟩ := h
  cases h
  rfl
theorem logic_answer_eq (k : Nat) (t0 : Int) : bodyK UX (logic_answer_cfg k) (logic_answer_G k) Tryd.f97 [.pv (.int .i64 t0)] [] logic_answer_dec = logic_answer k t0 := by kernel_rfl
theorem logic_answer_con (k : Nat) (t0 : Int) (r : S23) (h : logic_answer k t0 = some r) : Con (X := UX) Tryd.prog 97 [.pv (.int .i64 t0)] [] (logic_answer_enc r) [] :=
  con_of_body xok tok Tryd.func97 logic_answer_body (logic_answer_gok k) rfl (logic_answer_cok k) (of_decide_eq_true (by kernel_rfl)) logic_answer_dec_enc ((logic_answer_eq k t0).trans h)
noncomputable def logic_answer_an {ρ : Type} (k : Nat) : An UX ρ := fun args bx K =>
popA args fun v1 a2 =>
asI .i64 v1 fun t0 =>
popN a2 <|
popN bx <|
(logic_answer k t0).bind fun r => K (logic_answer_enc r) []
theorem logic_answer_ok {ρ : Type} (k : Nat) : AnsOK Tryd.prog 97 (logic_answer_an (ρ := ρ) k) := by
  intro args bx K r h
  unfold logic_answer_an at h
  replace h := popA_inv h; obtain ⟨v1, a2, rfl, h⟩ := h
  replace h := asI_inv h; obtain ⟨t0, rfl, h⟩ := h
  replace h := popN_inv h; obtain ⟨rfl, h⟩ := h
  replace h := popN_inv h; obtain ⟨rfl, h⟩ := h
  replace h := bind_inv h
  obtain ⟨x, hx, h⟩ := h
  exact ⟨there_of Tryd.func97 (by kernel_rfl) logic_answer_body, _, _, h, logic_answer_con k t0 x hx⟩

/-! cadastre/logic.Not -/
noncomputable def logic_Not_code : Code := match Tryd.f66.body with | some c => c | none => .skip
theorem logic_Not_body : Tryd.f66.body = some logic_Not_code := by kernel_rfl
noncomputable def logic_Not_G {ρ : Type} (k : Nat) : Ans UX ρ := gk 74 (logic_truth_an k) (gk 97 (logic_answer_an k) (gnil))
theorem logic_Not_gok {ρ : Type} (k : Nat) : GOK Tryd.prog (logic_Not_G (ρ := ρ) k) := gok_cons (logic_truth_ok k) (gok_cons (logic_answer_ok k) (gok_nil))
noncomputable def logic_Not_cfg {ρ : Type} (k : Nat) : Cfg UX ρ where
  live i := (assoc [(0, [0]), (1, [1, 2]), (2, [2, 4, 5]), (3, [2, 5]), (4, [2, 4])] i).getD []
  boxes i := (assoc [(0, []), (1, [1, 2]), (2, [2]), (3, [2]), (4, [2])] i).getD []
  tk i := (assoc [] i).getD []
  n := 18
  labelR l := (assoc [] l).getD 0
  loops := assoc []
  labels := assoc []
  joins := assoc []
  xl i e := match e with
    | .nxt => assoc [] i
    | .ret => assoc [] i
    | .exit j => (assoc [] i).bind fun l => assoc l j
    | .goto j => (assoc [] i).bind fun l => assoc l j
noncomputable def logic_Not_L : List Code := selI [] (loopsOf logic_Not_code)
noncomputable def logic_Not_J : List Code := selI [] (joinsOf logic_Not_code)
noncomputable def logic_Not_S : List Code := scopesOf logic_Not_code
theorem logic_Not_cok {ρ : Type} (k : Nat) : COK (logic_Not_cfg (ρ := ρ) k) (logic_Not_G k) logic_Not_code :=
  cok_of (tl := []) (tj := []) (tb := []) rfl rfl rfl (nil_all (by kernel_rfl)) (nil_all (by kernel_rfl)) (fun p hp => by cases hp)
noncomputable def logic_Not_enc (r : S23 × Int) : AV UU := .pv (.tup [.typ (.s23 r.1), .int .i64 r.2])
noncomputable def logic_Not_dec (v : AV UU) (_ : List (List (AV UU))) : Option (S23 × Int) :=
asT v fun q1 =>
popA q1 fun p2 q3 =>
as_s23 (.pv p2) fun r0 =>
popA q3 fun p4 q5 =>
asI .i64 (.pv p4) fun r1 =>
popN q5 <|
some (r0, r1)
theorem logic_Not_dec_enc (v : AV UU) (b : List (List (AV UU))) (r : S23 × Int) (h : logic_Not_dec v b = some r) : v = logic_Not_enc r := by
  unfold logic_Not_dec at h
  replace h := asT_inv h; obtain ⟨q1, rfl, h⟩ := h
  replace h := popA_inv h; obtain ⟨p2, q3, rfl, h⟩ := h
  replace h := as_s23_inv h; obtain ⟨r0, e, h⟩ := h; cases e
  replace h := popA_inv h; obtain ⟨p4, q5, rfl, h⟩ := h
  replace h := asI_inv h; obtain ⟨r1, e, h⟩ := h; cases e
  replace h := popN_inv h; obtain ⟨rfl, h⟩ := h
  cases h
  rfl
theorem logic_Not_eq (k : Nat) (v0 : S23) : bodyK UX (logic_Not_cfg k) (logic_Not_G k) Tryd.f66 [.pv (.typ (.s23 v0))] [] logic_Not_dec = logic_Not k v0 := by kernel_rfl
theorem logic_Not_con (k : Nat) (v0 : S23) (r : S23 × Int) (h : logic_Not k v0 = some r) : Con (X := UX) Tryd.prog 66 [.pv (.typ (.s23 v0))] [] (logic_Not_enc r) [] :=
  con_of_body xok tok Tryd.func66 logic_Not_body (logic_Not_gok k) rfl (logic_Not_cok k) (of_decide_eq_true (by kernel_rfl)) logic_Not_dec_enc ((logic_Not_eq k v0).trans h)
noncomputable def logic_Not_an {ρ : Type} (k : Nat) : An UX ρ := fun args bx K =>
popA args fun v1 a2 =>
as_s23 v1 fun v0 =>
popN a2 <|
popN bx <|
(logic_Not k v0).bind fun r => K (logic_Not_enc r) []
theorem logic_Not_ok {ρ : Type} (k : Nat) : AnsOK Tryd.prog 66 (logic_Not_an (ρ := ρ) k) := by
  intro args bx K r h
  unfold logic_Not_an at h
  replace h := popA_inv h; obtain ⟨v1, a2, rfl, h⟩ := h
  replace h := as_s23_inv h; obtain ⟨v0, rfl, h⟩ := h
  replace h := popN_inv h; obtain ⟨rfl, h⟩ := h
  replace h := popN_inv h; obtain ⟨rfl, h⟩ := h
  replace h := bind_inv h
  obtain ⟨x, hx, h⟩ := h
  exact ⟨there_of Tryd.func66 (by kernel_rfl) logic_Not_body, _, _, h, logic_Not_con k v0 x hx⟩

/-! strconv.FormatInt -/
noncomputable def strconv_FormatInt_code : Code := match Tryd.f44.body with | some c => c | none => .skip
theorem strconv_FormatInt_body : Tryd.f44.body = some strconv_FormatInt_code := by kernel_rfl
noncomputable def strconv_FormatInt_enc (r : ByteArray) : AV UU := .pv (.str r)
open Go.RowKit in
set_option maxRecDepth 100000 in
set_option maxHeartbeats 1000000 in
theorem strconv_FormatInt_con (k : Nat) (c0 : Int) (c1 : Int) (r : ByteArray) (h : strconv_FormatInt k c0 c1 = some r) : Con (X := UX) Tryd.prog 44 [.pv (.int .i64 c0), .pv (.int .i64 c1)] [] (strconv_FormatInt_enc r) [] := by
  unfold strconv_FormatInt at h
  unfold chk at h
  split at h
  · rename_i hc
    obtain ⟨rfl, hb⟩ := hc
    rw [big_eq, decide_eq_true_eq] at hb
    obtain rfl := Option.some.inj h
    exact con_numNum xok.wpos fun D w hI => (Any.strconv_FormatInt_10 Tryd.lays173 c0 hb.1 hb.2 w hI.1).mono fun e w' hw => by
      obtain ⟨rfl, k, os, rfl⟩ := hw
      exact ⟨rfl, Go.Lib.below_grow _ w (Nat.le_refl _) k os⟩
  · cases h
noncomputable def strconv_FormatInt_an {ρ : Type} (k : Nat) : An UX ρ := fun args bx K =>
popA args fun v1 a2 =>
asI .i64 v1 fun c0 =>
popA a2 fun v3 a4 =>
asI .i64 v3 fun c1 =>
popN a4 <|
popN bx <|
(strconv_FormatInt k c0 c1).bind fun r => K (strconv_FormatInt_enc r) []
theorem strconv_FormatInt_ok {ρ : Type} (k : Nat) : AnsOK Tryd.prog 44 (strconv_FormatInt_an (ρ := ρ) k) := by
  intro args bx K r h
  unfold strconv_FormatInt_an at h
  replace h := popA_inv h; obtain ⟨v1, a2, rfl, h⟩ := h
  replace h := asI_inv h; obtain ⟨c0, rfl, h⟩ := h
  replace h := popA_inv h; obtain ⟨v3, a4, rfl, h⟩ := h
  replace h := asI_inv h; obtain ⟨c1, rfl, h⟩ := h
  replace h := popN_inv h; obtain ⟨rfl, h⟩ := h
  replace h := popN_inv h; obtain ⟨rfl, h⟩ := h
  replace h := bind_inv h
  obtain ⟨x, hx, h⟩ := h
  exact ⟨there_of Tryd.func44 (by kernel_rfl) strconv_FormatInt_body, _, _, h, strconv_FormatInt_con k c0 c1 x hx⟩

/-! cadastre/value.Text -/
noncomputable def value_Text_code : Code := match Tryd.f99.body with | some c => c | none => .skip
theorem value_Text_body : Tryd.f99.body = some value_Text_code := by kernel_rfl
noncomputable def value_Text_G {ρ : Type} (k : Nat) : Ans UX ρ := gnil
theorem value_Text_gok {ρ : Type} (k : Nat) : GOK Tryd.prog (value_Text_G (ρ := ρ) k) := gok_nil
noncomputable def value_Text_cfg {ρ : Type} (k : Nat) : Cfg UX ρ where
  live i := (assoc [(0, [0]), (1, [0, 2])] i).getD []
  boxes i := (assoc [(0, []), (1, [2])] i).getD []
  tk i := (assoc [] i).getD []
  n := 5
  labelR l := (assoc [] l).getD 0
  loops := assoc []
  labels := assoc []
  joins := assoc []
  xl i e := match e with
    | .nxt => assoc [] i
    | .ret => assoc [] i
    | .exit j => (assoc [] i).bind fun l => assoc l j
    | .goto j => (assoc [] i).bind fun l => assoc l j
noncomputable def value_Text_L : List Code := selI [] (loopsOf value_Text_code)
noncomputable def value_Text_J : List Code := selI [] (joinsOf value_Text_code)
noncomputable def value_Text_S : List Code := scopesOf value_Text_code
theorem value_Text_cok {ρ : Type} (k : Nat) : COK (value_Text_cfg (ρ := ρ) k) (value_Text_G k) value_Text_code :=
  cok_of (tl := []) (tj := []) (tb := []) rfl rfl rfl (nil_all (by kernel_rfl)) (nil_all (by kernel_rfl)) (fun p hp => by cases hp)
noncomputable def value_Text_enc (r : S23) : AV UU := .pv (.typ (.s23 r))
noncomputable def value_Text_dec (v : AV UU) (_ : List (List (AV UU))) : Option S23 :=
as_s23 v fun r0 =>
some r0
theorem value_Text_dec_enc (v : AV UU) (b : List (List (AV UU))) (r : S23) (h : value_Text_dec v b = some r) : v = value_Text_enc r := by
  unfold value_Text_dec at h
  replace h := as_s23_inv h; obtain ⟨r0, rfl, h⟩ := h
  cases h
  rfl
theorem value_Text_eq (k : Nat) (s0 : ByteArray) : bodyK UX (value_Text_cfg k) (value_Text_G k) Tryd.f99 [.pv (.str s0)] [] value_Text_dec = value_Text k s0 := by kernel_rfl
theorem value_Text_con (k : Nat) (s0 : ByteArray) (r : S23) (h : value_Text k s0 = some r) : Con (X := UX) Tryd.prog 99 [.pv (.str s0)] [] (value_Text_enc r) [] :=
  con_of_body xok tok Tryd.func99 value_Text_body (value_Text_gok k) rfl (value_Text_cok k) (of_decide_eq_true (by kernel_rfl)) value_Text_dec_enc ((value_Text_eq k s0).trans h)
noncomputable def value_Text_an {ρ : Type} (k : Nat) : An UX ρ := fun args bx K =>
popA args fun v1 a2 =>
asS v1 fun s0 =>
popN a2 <|
popN bx <|
(value_Text k s0).bind fun r => K (value_Text_enc r) []
theorem value_Text_ok {ρ : Type} (k : Nat) : AnsOK Tryd.prog 99 (value_Text_an (ρ := ρ) k) := by
  intro args bx K r h
  unfold value_Text_an at h
  replace h := popA_inv h; obtain ⟨v1, a2, rfl, h⟩ := h
  replace h := asS_inv h; obtain ⟨s0, rfl, h⟩ := h
  replace h := popN_inv h; obtain ⟨rfl, h⟩ := h
  replace h := popN_inv h; obtain ⟨rfl, h⟩ := h
  replace h := bind_inv h
  obtain ⟨x, hx, h⟩ := h
  exact ⟨there_of Tryd.func99 (by kernel_rfl) value_Text_body, _, _, h, value_Text_con k s0 x hx⟩

/-! cadastre/arith.Text -/
noncomputable def arith_Text_code : Code := match Tryd.f98.body with | some c => c | none => .skip
theorem arith_Text_body : Tryd.f98.body = some arith_Text_code := by kernel_rfl
noncomputable def arith_Text_G {ρ : Type} (k : Nat) : Ans UX ρ := gk 61 (value_Good_an k) (gk 44 (strconv_FormatInt_an k) (gk 99 (value_Text_an k) (gnil)))
theorem arith_Text_gok {ρ : Type} (k : Nat) : GOK Tryd.prog (arith_Text_G (ρ := ρ) k) := gok_cons (value_Good_ok k) (gok_cons (strconv_FormatInt_ok k) (gok_cons (value_Text_ok k) (gok_nil)))
noncomputable def arith_Text_cfg {ρ : Type} (k : Nat) : Cfg UX ρ where
  live i := (assoc [(0, [0]), (1, [1, 2]), (2, [2]), (3, [1, 2]), (4, [1, 2]), (5, [1, 2])] i).getD []
  boxes i := (assoc [(0, []), (1, [1, 2]), (2, [2]), (3, [1, 2]), (4, [1, 2]), (5, [1, 2])] i).getD []
  tk i := (assoc [] i).getD []
  n := 18
  labelR l := (assoc [] l).getD 0
  loops := assoc []
  labels := assoc []
  joins := assoc []
  xl i e := match e with
    | .nxt => assoc [] i
    | .ret => assoc [] i
    | .exit j => (assoc [] i).bind fun l => assoc l j
    | .goto j => (assoc [] i).bind fun l => assoc l j
noncomputable def arith_Text_L : List Code := selI [] (loopsOf arith_Text_code)
noncomputable def arith_Text_J : List Code := selI [] (joinsOf arith_Text_code)
noncomputable def arith_Text_S : List Code := scopesOf arith_Text_code
theorem arith_Text_cok {ρ : Type} (k : Nat) : COK (arith_Text_cfg (ρ := ρ) k) (arith_Text_G k) arith_Text_code :=
  cok_of (tl := []) (tj := []) (tb := []) rfl rfl rfl (nil_all (by kernel_rfl)) (nil_all (by kernel_rfl)) (fun p hp => by cases hp)
noncomputable def arith_Text_enc (r : S23 × Int) : AV UU := .pv (.tup [.typ (.s23 r.1), .int .i64 r.2])
noncomputable def arith_Text_dec (v : AV UU) (_ : List (List (AV UU))) : Option (S23 × Int) :=
asT v fun q1 =>
popA q1 fun p2 q3 =>
as_s23 (.pv p2) fun r0 =>
popA q3 fun p4 q5 =>
asI .i64 (.pv p4) fun r1 =>
popN q5 <|
some (r0, r1)
theorem arith_Text_dec_enc (v : AV UU) (b : List (List (AV UU))) (r : S23 × Int) (h : arith_Text_dec v b = some r) : v = arith_Text_enc r := by
  unfold arith_Text_dec at h
  replace h := asT_inv h; obtain ⟨q1, rfl, h⟩ := h
  replace h := popA_inv h; obtain ⟨p2, q3, rfl, h⟩ := h
  replace h := as_s23_inv h; obtain ⟨r0, e, h⟩ := h; cases e
  replace h := popA_inv h; obtain ⟨p4, q5, rfl, h⟩ := h
  replace h := asI_inv h; obtain ⟨r1, e, h⟩ := h; cases e
  replace h := popN_inv h; obtain ⟨rfl, h⟩ := h
  cases h
  rfl
theorem arith_Text_eq (k : Nat) (v0 : S23) : bodyK UX (arith_Text_cfg k) (arith_Text_G k) Tryd.f98 [.pv (.typ (.s23 v0))] [] arith_Text_dec = arith_Text k v0 := by kernel_rfl
theorem arith_Text_con (k : Nat) (v0 : S23) (r : S23 × Int) (h : arith_Text k v0 = some r) : Con (X := UX) Tryd.prog 98 [.pv (.typ (.s23 v0))] [] (arith_Text_enc r) [] :=
  con_of_body xok tok Tryd.func98 arith_Text_body (arith_Text_gok k) rfl (arith_Text_cok k) (of_decide_eq_true (by kernel_rfl)) arith_Text_dec_enc ((arith_Text_eq k v0).trans h)
noncomputable def arith_Text_an {ρ : Type} (k : Nat) : An UX ρ := fun args bx K =>
popA args fun v1 a2 =>
as_s23 v1 fun v0 =>
popN a2 <|
popN bx <|
(arith_Text k v0).bind fun r => K (arith_Text_enc r) []
theorem arith_Text_ok {ρ : Type} (k : Nat) : AnsOK Tryd.prog 98 (arith_Text_an (ρ := ρ) k) := by
  intro args bx K r h
  unfold arith_Text_an at h
  replace h := popA_inv h; obtain ⟨v1, a2, rfl, h⟩ := h
  replace h := as_s23_inv h; obtain ⟨v0, rfl, h⟩ := h
  replace h := popN_inv h; obtain ⟨rfl, h⟩ := h
  replace h := popN_inv h; obtain ⟨rfl, h⟩ := h
  replace h := bind_inv h
  obtain ⟨x, hx, h⟩ := h
  exact ⟨there_of Tryd.func98 (by kernel_rfl) arith_Text_body, _, _, h, arith_Text_con k v0 x hx⟩

/-! cadastre/arith.Length -/
noncomputable def arith_Length_code : Code := match Tryd.f67.body with | some c => c | none => .skip
theorem arith_Length_body : Tryd.f67.body = some arith_Length_code := by kernel_rfl
noncomputable def arith_Length_G {ρ : Type} (k : Nat) : Ans UX ρ := gk 98 (arith_Text_an k) (gk 96 (value_Int_an k) (gnil))
theorem arith_Length_gok {ρ : Type} (k : Nat) : GOK Tryd.prog (arith_Length_G (ρ := ρ) k) := gok_cons (arith_Text_ok k) (gok_cons (value_Int_ok k) (gok_nil))
noncomputable def arith_Length_cfg {ρ : Type} (k : Nat) : Cfg UX ρ where
  live i := (assoc [(0, [0]), (1, [1, 2]), (2, [2, 4, 5]), (3, [2, 5]), (4, [2, 4])] i).getD []
  boxes i := (assoc [(0, []), (1, [1, 2]), (2, [2, 4]), (3, [2]), (4, [2, 4])] i).getD []
  tk i := (assoc [] i).getD []
  n := 24
  labelR l := (assoc [] l).getD 0
  loops := assoc []
  labels := assoc []
  joins := assoc []
  xl i e := match e with
    | .nxt => assoc [] i
    | .ret => assoc [] i
    | .exit j => (assoc [] i).bind fun l => assoc l j
    | .goto j => (assoc [] i).bind fun l => assoc l j
noncomputable def arith_Length_L : List Code := selI [] (loopsOf arith_Length_code)
noncomputable def arith_Length_J : List Code := selI [] (joinsOf arith_Length_code)
noncomputable def arith_Length_S : List Code := scopesOf arith_Length_code
theorem arith_Length_cok {ρ : Type} (k : Nat) : COK (arith_Length_cfg (ρ := ρ) k) (arith_Length_G k) arith_Length_code :=
  cok_of (tl := []) (tj := []) (tb := []) rfl rfl rfl (nil_all (by kernel_rfl)) (nil_all (by kernel_rfl)) (fun p hp => by cases hp)
noncomputable def arith_Length_enc (r : S23 × Int) : AV UU := .pv (.tup [.typ (.s23 r.1), .int .i64 r.2])
noncomputable def arith_Length_dec (v : AV UU) (_ : List (List (AV UU))) : Option (S23 × Int) :=
asT v fun q1 =>
popA q1 fun p2 q3 =>
as_s23 (.pv p2) fun r0 =>
popA q3 fun p4 q5 =>
asI .i64 (.pv p4) fun r1 =>
popN q5 <|
some (r0, r1)
theorem arith_Length_dec_enc (v : AV UU) (b : List (List (AV UU))) (r : S23 × Int) (h : arith_Length_dec v b = some r) : v = arith_Length_enc r := by
  unfold arith_Length_dec at h
  replace h := asT_inv h; obtain ⟨q1, rfl, h⟩ := h
  replace h := popA_inv h; obtain ⟨p2, q3, rfl, h⟩ := h
  replace h := as_s23_inv h; obtain ⟨r0, e, h⟩ := h; cases e
  replace h := popA_inv h; obtain ⟨p4, q5, rfl, h⟩ := h
  replace h := asI_inv h; obtain ⟨r1, e, h⟩ := h; cases e
  replace h := popN_inv h; obtain ⟨rfl, h⟩ := h
  cases h
  rfl
theorem arith_Length_eq (k : Nat) (v0 : S23) : bodyK UX (arith_Length_cfg k) (arith_Length_G k) Tryd.f67 [.pv (.typ (.s23 v0))] [] arith_Length_dec = arith_Length k v0 := by kernel_rfl
theorem arith_Length_con (k : Nat) (v0 : S23) (r : S23 × Int) (h : arith_Length k v0 = some r) : Con (X := UX) Tryd.prog 67 [.pv (.typ (.s23 v0))] [] (arith_Length_enc r) [] :=
  con_of_body xok tok Tryd.func67 arith_Length_body (arith_Length_gok k) rfl (arith_Length_cok k) (of_decide_eq_true (by kernel_rfl)) arith_Length_dec_enc ((arith_Length_eq k v0).trans h)
noncomputable def arith_Length_an {ρ : Type} (k : Nat) : An UX ρ := fun args bx K =>
popA args fun v1 a2 =>
as_s23 v1 fun v0 =>
popN a2 <|
popN bx <|
(arith_Length k v0).bind fun r => K (arith_Length_enc r) []
theorem arith_Length_ok {ρ : Type} (k : Nat) : AnsOK Tryd.prog 67 (arith_Length_an (ρ := ρ) k) := by
  intro args bx K r h
  unfold arith_Length_an at h
  replace h := popA_inv h; obtain ⟨v1, a2, rfl, h⟩ := h
  replace h := as_s23_inv h; obtain ⟨v0, rfl, h⟩ := h
  replace h := popN_inv h; obtain ⟨rfl, h⟩ := h
  replace h := popN_inv h; obtain ⟨rfl, h⟩ := h
  replace h := bind_inv h
  obtain ⟨x, hx, h⟩ := h
  exact ⟨there_of Tryd.func67 (by kernel_rfl) arith_Length_body, _, _, h, arith_Length_con k v0 x hx⟩

/-! cadastre/arith.Typeof -/
noncomputable def arith_Typeof_code : Code := match Tryd.f68.body with | some c => c | none => .skip
theorem arith_Typeof_body : Tryd.f68.body = some arith_Typeof_code := by kernel_rfl
noncomputable def arith_Typeof_G {ρ : Type} (k : Nat) : Ans UX ρ := gk 61 (value_Good_an k) (gk 99 (value_Text_an k) (gnil))
theorem arith_Typeof_gok {ρ : Type} (k : Nat) : GOK Tryd.prog (arith_Typeof_G (ρ := ρ) k) := gok_cons (value_Good_ok k) (gok_cons (value_Text_ok k) (gok_nil))
noncomputable def arith_Typeof_cfg {ρ : Type} (k : Nat) : Cfg UX ρ where
  live i := (assoc [(0, [0]), (1, [1, 2]), (2, [2]), (3, [1, 2])] i).getD []
  boxes i := (assoc [(0, []), (1, [1, 2]), (2, [2]), (3, [1, 2])] i).getD []
  tk i := (assoc [] i).getD []
  n := 14
  labelR l := (assoc [] l).getD 0
  loops := assoc []
  labels := assoc []
  joins := assoc []
  xl i e := match e with
    | .nxt => assoc [] i
    | .ret => assoc [] i
    | .exit j => (assoc [] i).bind fun l => assoc l j
    | .goto j => (assoc [] i).bind fun l => assoc l j
noncomputable def arith_Typeof_L : List Code := selI [] (loopsOf arith_Typeof_code)
noncomputable def arith_Typeof_J : List Code := selI [] (joinsOf arith_Typeof_code)
noncomputable def arith_Typeof_S : List Code := scopesOf arith_Typeof_code
theorem arith_Typeof_cok {ρ : Type} (k : Nat) : COK (arith_Typeof_cfg (ρ := ρ) k) (arith_Typeof_G k) arith_Typeof_code :=
  cok_of (tl := []) (tj := []) (tb := []) rfl rfl rfl (nil_all (by kernel_rfl)) (nil_all (by kernel_rfl)) (fun p hp => by cases hp)
noncomputable def arith_Typeof_enc (r : S23 × Int) : AV UU := .pv (.tup [.typ (.s23 r.1), .int .i64 r.2])
noncomputable def arith_Typeof_dec (v : AV UU) (_ : List (List (AV UU))) : Option (S23 × Int) :=
asT v fun q1 =>
popA q1 fun p2 q3 =>
as_s23 (.pv p2) fun r0 =>
popA q3 fun p4 q5 =>
asI .i64 (.pv p4) fun r1 =>
popN q5 <|
some (r0, r1)
theorem arith_Typeof_dec_enc (v : AV UU) (b : List (List (AV UU))) (r : S23 × Int) (h : arith_Typeof_dec v b = some r) : v = arith_Typeof_enc r := by
  unfold arith_Typeof_dec at h
  replace h := asT_inv h; obtain ⟨q1, rfl, h⟩ := h
  replace h := popA_inv h; obtain ⟨p2, q3, rfl, h⟩ := h
  replace h := as_s23_inv h; obtain ⟨r0, e, h⟩ := h; cases e
  replace h := popA_inv h; obtain ⟨p4, q5, rfl, h⟩ := h
  replace h := asI_inv h; obtain ⟨r1, e, h⟩ := h; cases e
  replace h := popN_inv h; obtain ⟨rfl, h⟩ := h
  cases h
  rfl
theorem arith_Typeof_eq (k : Nat) (v0 : S23) : bodyK UX (arith_Typeof_cfg k) (arith_Typeof_G k) Tryd.f68 [.pv (.typ (.s23 v0))] [] arith_Typeof_dec = arith_Typeof k v0 := by kernel_rfl
theorem arith_Typeof_con (k : Nat) (v0 : S23) (r : S23 × Int) (h : arith_Typeof k v0 = some r) : Con (X := UX) Tryd.prog 68 [.pv (.typ (.s23 v0))] [] (arith_Typeof_enc r) [] :=
  con_of_body xok tok Tryd.func68 arith_Typeof_body (arith_Typeof_gok k) rfl (arith_Typeof_cok k) (of_decide_eq_true (by kernel_rfl)) arith_Typeof_dec_enc ((arith_Typeof_eq k v0).trans h)
noncomputable def arith_Typeof_an {ρ : Type} (k : Nat) : An UX ρ := fun args bx K =>
popA args fun v1 a2 =>
as_s23 v1 fun v0 =>
popN a2 <|
popN bx <|
(arith_Typeof k v0).bind fun r => K (arith_Typeof_enc r) []
theorem arith_Typeof_ok {ρ : Type} (k : Nat) : AnsOK Tryd.prog 68 (arith_Typeof_an (ρ := ρ) k) := by
  intro args bx K r h
  unfold arith_Typeof_an at h
  replace h := popA_inv h; obtain ⟨v1, a2, rfl, h⟩ := h
  replace h := as_s23_inv h; obtain ⟨v0, rfl, h⟩ := h
  replace h := popN_inv h; obtain ⟨rfl, h⟩ := h
  replace h := popN_inv h; obtain ⟨rfl, h⟩ := h
  replace h := bind_inv h
  obtain ⟨x, hx, h⟩ := h
  exact ⟨there_of Tryd.func68 (by kernel_rfl) arith_Typeof_body, _, _, h, arith_Typeof_con k v0 x hx⟩

/-! cadastre/logic.said -/
noncomputable def logic_said_code : Code := match Tryd.f100.body with | some c => c | none => .skip
theorem logic_said_body : Tryd.f100.body = some logic_said_code := by kernel_rfl
noncomputable def logic_said_G {ρ : Type} (k : Nat) : Ans UX ρ := gk 97 (logic_answer_an k) (gnil)
theorem logic_said_gok {ρ : Type} (k : Nat) : GOK Tryd.prog (logic_said_G (ρ := ρ) k) := gok_cons (logic_answer_ok k) (gok_nil)
noncomputable def logic_said_cfg {ρ : Type} (k : Nat) : Cfg UX ρ where
  live i := (assoc [(0, [0]), (1, [0, 2]), (2, [2]), (3, [2])] i).getD []
  boxes i := (assoc [(0, []), (1, [2]), (2, [2]), (3, [2])] i).getD []
  tk i := (assoc [] i).getD []
  n := 6
  labelR l := (assoc [] l).getD 0
  loops := assoc []
  labels := assoc []
  joins := assoc []
  xl i e := match e with
    | .nxt => assoc [] i
    | .ret => assoc [] i
    | .exit j => (assoc [] i).bind fun l => assoc l j
    | .goto j => (assoc [] i).bind fun l => assoc l j
noncomputable def logic_said_L : List Code := selI [] (loopsOf logic_said_code)
noncomputable def logic_said_J : List Code := selI [] (joinsOf logic_said_code)
noncomputable def logic_said_S : List Code := scopesOf logic_said_code
theorem logic_said_cok {ρ : Type} (k : Nat) : COK (logic_said_cfg (ρ := ρ) k) (logic_said_G k) logic_said_code :=
  cok_of (tl := []) (tj := []) (tb := []) rfl rfl rfl (nil_all (by kernel_rfl)) (nil_all (by kernel_rfl)) (fun p hp => by cases hp)
noncomputable def logic_said_enc (r : S23) : AV UU := .pv (.typ (.s23 r))
noncomputable def logic_said_dec (v : AV UU) (_ : List (List (AV UU))) : Option S23 :=
as_s23 v fun r0 =>
some r0
theorem logic_said_dec_enc (v : AV UU) (b : List (List (AV UU))) (r : S23) (h : logic_said_dec v b = some r) : v = logic_said_enc r := by
  unfold logic_said_dec at h
  replace h := as_s23_inv h; obtain ⟨r0, rfl, h⟩ := h
  cases h
  rfl
theorem logic_said_eq (k : Nat) (so0 : Bool) : bodyK UX (logic_said_cfg k) (logic_said_G k) Tryd.f100 [.pv (.bool so0)] [] logic_said_dec = logic_said k so0 := by kernel_rfl
theorem logic_said_con (k : Nat) (so0 : Bool) (r : S23) (h : logic_said k so0 = some r) : Con (X := UX) Tryd.prog 100 [.pv (.bool so0)] [] (logic_said_enc r) [] :=
  con_of_body xok tok Tryd.func100 logic_said_body (logic_said_gok k) rfl (logic_said_cok k) (of_decide_eq_true (by kernel_rfl)) logic_said_dec_enc ((logic_said_eq k so0).trans h)
noncomputable def logic_said_an {ρ : Type} (k : Nat) : An UX ρ := fun args bx K =>
popA args fun v1 a2 =>
asB v1 fun so0 =>
popN a2 <|
popN bx <|
(logic_said k so0).bind fun r => K (logic_said_enc r) []
theorem logic_said_ok {ρ : Type} (k : Nat) : AnsOK Tryd.prog 100 (logic_said_an (ρ := ρ) k) := by
  intro args bx K r h
  unfold logic_said_an at h
  replace h := popA_inv h; obtain ⟨v1, a2, rfl, h⟩ := h
  replace h := asB_inv h; obtain ⟨so0, rfl, h⟩ := h
  replace h := popN_inv h; obtain ⟨rfl, h⟩ := h
  replace h := popN_inv h; obtain ⟨rfl, h⟩ := h
  replace h := bind_inv h
  obtain ⟨x, hx, h⟩ := h
  exact ⟨there_of Tryd.func100 (by kernel_rfl) logic_said_body, _, _, h, logic_said_con k so0 x hx⟩

/-! cadastre/logic.Null -/
noncomputable def logic_Null_code : Code := match Tryd.f69.body with | some c => c | none => .skip
theorem logic_Null_body : Tryd.f69.body = some logic_Null_code := by kernel_rfl
noncomputable def logic_Null_G {ρ : Type} (k : Nat) : Ans UX ρ := gk 61 (value_Good_an k) (gk 100 (logic_said_an k) (gnil))
theorem logic_Null_gok {ρ : Type} (k : Nat) : GOK Tryd.prog (logic_Null_G (ρ := ρ) k) := gok_cons (value_Good_ok k) (gok_cons (logic_said_ok k) (gok_nil))
noncomputable def logic_Null_cfg {ρ : Type} (k : Nat) : Cfg UX ρ where
  live i := (assoc [(0, [0, 1]), (1, [0, 3, 4]), (2, [4]), (3, [0, 3, 4])] i).getD []
  boxes i := (assoc [(0, []), (1, [3, 4]), (2, [4]), (3, [3, 4])] i).getD []
  tk i := (assoc [] i).getD []
  n := 25
  labelR l := (assoc [] l).getD 0
  loops := assoc []
  labels := assoc []
  joins := assoc []
  xl i e := match e with
    | .nxt => assoc [] i
    | .ret => assoc [] i
    | .exit j => (assoc [] i).bind fun l => assoc l j
    | .goto j => (assoc [] i).bind fun l => assoc l j
noncomputable def logic_Null_L : List Code := selI [] (loopsOf logic_Null_code)
noncomputable def logic_Null_J : List Code := selI [] (joinsOf logic_Null_code)
noncomputable def logic_Null_S : List Code := scopesOf logic_Null_code
theorem logic_Null_cok {ρ : Type} (k : Nat) : COK (logic_Null_cfg (ρ := ρ) k) (logic_Null_G k) logic_Null_code :=
  cok_of (tl := []) (tj := []) (tb := []) rfl rfl rfl (nil_all (by kernel_rfl)) (nil_all (by kernel_rfl)) (fun p hp => by cases hp)
noncomputable def logic_Null_enc (r : S23 × Int) : AV UU := .pv (.tup [.typ (.s23 r.1), .int .i64 r.2])
noncomputable def logic_Null_dec (v : AV UU) (_ : List (List (AV UU))) : Option (S23 × Int) :=
asT v fun q1 =>
popA q1 fun p2 q3 =>
as_s23 (.pv p2) fun r0 =>
popA q3 fun p4 q5 =>
asI .i64 (.pv p4) fun r1 =>
popN q5 <|
some (r0, r1)
theorem logic_Null_dec_enc (v : AV UU) (b : List (List (AV UU))) (r : S23 × Int) (h : logic_Null_dec v b = some r) : v = logic_Null_enc r := by
  unfold logic_Null_dec at h
  replace h := asT_inv h; obtain ⟨q1, rfl, h⟩ := h
  replace h := popA_inv h; obtain ⟨p2, q3, rfl, h⟩ := h
  replace h := as_s23_inv h; obtain ⟨r0, e, h⟩ := h; cases e
  replace h := popA_inv h; obtain ⟨p4, q5, rfl, h⟩ := h
  replace h := asI_inv h; obtain ⟨r1, e, h⟩ := h; cases e
  replace h := popN_inv h; obtain ⟨rfl, h⟩ := h
  cases h
  rfl
theorem logic_Null_eq (k : Nat) (op0 : Int) (v1 : S23) : bodyK UX (logic_Null_cfg k) (logic_Null_G k) Tryd.f69 [.pv (.int .i64 op0), .pv (.typ (.s23 v1))] [] logic_Null_dec = logic_Null k op0 v1 := by kernel_rfl
theorem logic_Null_con (k : Nat) (op0 : Int) (v1 : S23) (r : S23 × Int) (h : logic_Null k op0 v1 = some r) : Con (X := UX) Tryd.prog 69 [.pv (.int .i64 op0), .pv (.typ (.s23 v1))] [] (logic_Null_enc r) [] :=
  con_of_body xok tok Tryd.func69 logic_Null_body (logic_Null_gok k) rfl (logic_Null_cok k) (of_decide_eq_true (by kernel_rfl)) logic_Null_dec_enc ((logic_Null_eq k op0 v1).trans h)
noncomputable def logic_Null_an {ρ : Type} (k : Nat) : An UX ρ := fun args bx K =>
popA args fun v1 a2 =>
asI .i64 v1 fun op0 =>
popA a2 fun v3 a4 =>
as_s23 v3 fun v1 =>
popN a4 <|
popN bx <|
(logic_Null k op0 v1).bind fun r => K (logic_Null_enc r) []
theorem logic_Null_ok {ρ : Type} (k : Nat) : AnsOK Tryd.prog 69 (logic_Null_an (ρ := ρ) k) := by
  intro args bx K r h
  unfold logic_Null_an at h
  replace h := popA_inv h; obtain ⟨v1, a2, rfl, h⟩ := h
  replace h := asI_inv h; obtain ⟨op0, rfl, h⟩ := h
  replace h := popA_inv h; obtain ⟨v3, a4, rfl, h⟩ := h
  replace h := as_s23_inv h; obtain ⟨v1, rfl, h⟩ := h
  replace h := popN_inv h; obtain ⟨rfl, h⟩ := h
  replace h := popN_inv h; obtain ⟨rfl, h⟩ := h
  replace h := bind_inv h
  obtain ⟨x, hx, h⟩ := h
  exact ⟨there_of Tryd.func69 (by kernel_rfl) logic_Null_body, _, _, h, logic_Null_con k op0 v1 x hx⟩
end Go.Proofs.YtnoeedkbadoogaaDoor.E
