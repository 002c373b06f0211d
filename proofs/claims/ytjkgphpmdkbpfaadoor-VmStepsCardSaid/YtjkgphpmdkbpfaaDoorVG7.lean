/-
  What the program's functions answer: the printed functions' answers.
-/
import Derived.Test.YtjkgphpmdkbpfaaDoorVG6
namespace Go.Proofs.YtjkgphpmdkbpfaaDoor.V
open Go Go.AX
/-! cadastre/eval.Bin -/
noncomputable def eval_Bin_code : Code := match Tryd.f44.body with | some c => c | none => .skip
theorem eval_Bin_body : Tryd.f44.body = some eval_Bin_code := by kernel_rfl
noncomputable def eval_Bin_G {ρ : Type} (k : Nat) : Ans UX ρ := gk 59 (arith_Concat_an k) (gk 60 (arith_Do_an k) (gk 61 (logic_Test_an k) (gk 62 (logic_Join_an k) (gnil))))
theorem eval_Bin_gok {ρ : Type} (k : Nat) : GOK Tryd.prog (eval_Bin_G (ρ := ρ) k) := gok_cons (arith_Concat_ok k) (gok_cons (arith_Do_ok k) (gok_cons (logic_Test_ok k) (gok_cons (logic_Join_ok k) (gok_nil))))
noncomputable def eval_Bin_cfg {ρ : Type} (k : Nat) : Cfg UX ρ where
  live i := (assoc [(0, [0, 1, 2]), (1, [0, 4, 5, 6]), (2, [4, 5, 6]), (3, [0, 4, 5, 6]), (4, [0, 4, 5, 6]), (5, [0, 4, 5, 6]), (6, [0, 4, 5, 6]), (7, [0, 4, 5, 6])] i).getD []
  boxes i := (assoc [(0, []), (1, [4, 5, 6]), (2, [4, 5, 6]), (3, [4, 5, 6]), (4, [4, 5, 6]), (5, [4, 5, 6]), (6, [4, 5, 6]), (7, [4, 5, 6])] i).getD []
  tk i := (assoc [] i).getD []
  n := 40
  labelR l := (assoc [] l).getD 0
  loops := assoc []
  labels := assoc []
  joins := assoc []
  xl i e := match e with
    | .nxt => assoc [] i
    | .ret => assoc [] i
    | .exit j => (assoc [] i).bind fun l => assoc l j
    | .goto j => (assoc [] i).bind fun l => assoc l j
noncomputable def eval_Bin_L : List Code := selI [] (loopsOf eval_Bin_code)
noncomputable def eval_Bin_J : List Code := selI [] (joinsOf eval_Bin_code)
noncomputable def eval_Bin_S : List Code := scopesOf eval_Bin_code
theorem eval_Bin_cok {ρ : Type} (k : Nat) : COK (eval_Bin_cfg (ρ := ρ) k) (eval_Bin_G k) eval_Bin_code :=
  cok_of (tl := []) (tj := []) (tb := []) rfl rfl rfl (nil_all (by kernel_rfl)) (nil_all (by kernel_rfl)) (fun p hp => by cases hp)
noncomputable def eval_Bin_enc (r : S29 × Int) : AV UU := .pv (.tup [.typ (.s29 r.1), .int .i64 r.2])
noncomputable def eval_Bin_dec (v : AV UU) (_ : List (List (AV UU))) : Option (S29 × Int) :=
asT v fun q1 =>
popA q1 fun p2 q3 =>
as_s29 (.pv p2) fun r0 =>
popA q3 fun p4 q5 =>
asI .i64 (.pv p4) fun r1 =>
popN q5 <|
some (r0, r1)
theorem eval_Bin_dec_enc (v : AV UU) (b : List (List (AV UU))) (r : S29 × Int) (h : eval_Bin_dec v b = some r) : v = eval_Bin_enc r := by
  unfold eval_Bin_dec at h
  replace h := asT_inv h; obtain ⟨q1, rfl, h⟩ := h
  replace h := popA_inv h; obtain ⟨p2, q3, rfl, h⟩ := h
  replace h := as_s29_inv h; obtain ⟨r0, e, h⟩ := h; cases e
  replace h := popA_inv h; obtain ⟨p4, q5, rfl, h⟩ := h
  replace h := asI_inv h; obtain ⟨r1, e, h⟩ := h; cases e
  replace h := popN_inv h; obtain ⟨rfl, h⟩ := h
  cases h
  rfl
theorem eval_Bin_eq (k : Nat) (op0 : Int) (a1 : S29) (b2 : S29) : bodyK UX (eval_Bin_cfg k) (eval_Bin_G k) Tryd.f44 [.pv (.int .i64 op0), .pv (.typ (.s29 a1)), .pv (.typ (.s29 b2))] [] eval_Bin_dec = eval_Bin k op0 a1 b2 := by kernel_rfl
theorem eval_Bin_con (k : Nat) (op0 : Int) (a1 : S29) (b2 : S29) (r : S29 × Int) (h : eval_Bin k op0 a1 b2 = some r) : Con (X := UX) Tryd.prog 44 [.pv (.int .i64 op0), .pv (.typ (.s29 a1)), .pv (.typ (.s29 b2))] [] (eval_Bin_enc r) [] :=
  con_of_body xok tok Tryd.func44 eval_Bin_body (eval_Bin_gok k) rfl (eval_Bin_cok k) (of_decide_eq_true (by kernel_rfl)) eval_Bin_dec_enc ((eval_Bin_eq k op0 a1 b2).trans h)
noncomputable def eval_Bin_an {ρ : Type} (k : Nat) : An UX ρ := fun args bx K =>
popA args fun v1 a2 =>
asI .i64 v1 fun op0 =>
popA a2 fun v3 a4 =>
as_s29 v3 fun a1 =>
popA a4 fun v5 a6 =>
as_s29 v5 fun b2 =>
popN a6 <|
popN bx <|
(eval_Bin k op0 a1 b2).bind fun r => K (eval_Bin_enc r) []
theorem eval_Bin_ok {ρ : Type} (k : Nat) : AnsOK Tryd.prog 44 (eval_Bin_an (ρ := ρ) k) := by
  intro args bx K r h
  unfold eval_Bin_an at h
  replace h := popA_inv h; obtain ⟨v1, a2, rfl, h⟩ := h
  replace h := asI_inv h; obtain ⟨op0, rfl, h⟩ := h
  replace h := popA_inv h; obtain ⟨v3, a4, rfl, h⟩ := h
  replace h := as_s29_inv h; obtain ⟨a1, rfl, h⟩ := h
  replace h := popA_inv h; obtain ⟨v5, a6, rfl, h⟩ := h
  replace h := as_s29_inv h; obtain ⟨b2, rfl, h⟩ := h
  replace h := popN_inv h; obtain ⟨rfl, h⟩ := h
  replace h := popN_inv h; obtain ⟨rfl, h⟩ := h
  replace h := bind_inv h
  obtain ⟨x, hx, h⟩ := h
  exact ⟨there_of Tryd.func44 (by kernel_rfl) eval_Bin_body, _, _, h, eval_Bin_con k op0 a1 b2 x hx⟩

/-! (*cadastre/vm.machine).asks -/
noncomputable def vm_machine_asks_p0_code : Code := match Tryd.f23.body with | some c => c | none => .skip
theorem vm_machine_asks_p0_body : Tryd.f23.body = some vm_machine_asks_p0_code := by kernel_rfl
noncomputable def vm_machine_asks_p0_G {ρ : Type} (k : Nat) : Ans UX ρ := gk 41 (logic_Not_an k) (gk 42 (logic_True_an k) (gnil))
theorem vm_machine_asks_p0_gok {ρ : Type} (k : Nat) : GOK Tryd.prog (vm_machine_asks_p0_G (ρ := ρ) k) := gok_cons (logic_Not_ok k) (gok_cons (logic_True_ok k) (gok_nil))
noncomputable def vm_machine_asks_p0_cfg {ρ : Type} (k : Nat) : Cfg UX ρ where
  live i := (assoc [(0, [0, 1]), (1, [0, 3]), (2, [3, 6]), (3, [6]), (4, [6, 7, 8]), (5, [8]), (6, [6, 7]), (7, [6])] i).getD []
  boxes i := (assoc [(0, []), (1, [3]), (2, [3, 6]), (3, [6]), (4, [6, 7]), (5, []), (6, [6, 7]), (7, [6])] i).getD []
  tk i := (assoc [] i).getD []
  n := 32
  labelR l := (assoc [] l).getD 0
  loops := assoc []
  labels := assoc []
  joins := assoc []
  xl i e := match e with
    | .nxt => assoc [] i
    | .ret => assoc [] i
    | .exit j => (assoc [] i).bind fun l => assoc l j
    | .goto j => (assoc [] i).bind fun l => assoc l j
noncomputable def vm_machine_asks_p0_L : List Code := selI [] (loopsOf vm_machine_asks_p0_code)
noncomputable def vm_machine_asks_p0_J : List Code := selI [] (joinsOf vm_machine_asks_p0_code)
noncomputable def vm_machine_asks_p0_S : List Code := scopesOf vm_machine_asks_p0_code
theorem vm_machine_asks_p0_cok {ρ : Type} (k : Nat) : COK (vm_machine_asks_p0_cfg (ρ := ρ) k) (vm_machine_asks_p0_G k) vm_machine_asks_p0_code :=
  cok_of (tl := []) (tj := []) (tb := []) rfl rfl rfl (nil_all (by kernel_rfl)) (nil_all (by kernel_rfl)) (fun p hp => by cases hp)
noncomputable def vm_machine_asks_p0_enc (r : (Bool × Int) × S55) : AV UU := .pv (.tup [.bool r.1.1, .int .i64 r.1.2])
noncomputable def vm_machine_asks_p0_bx (r : (Bool × Int) × S55) : List (List (AV UU)) := [[.pv (.typ (.a49 r.2.f0)), .pv (.typ (.l29 r.2.f1))]]
noncomputable def vm_machine_asks_p0_dec (v : AV UU) (b : List (List (AV UU))) : Option ((Bool × Int) × S55) :=
asT v fun q1 =>
popA q1 fun p2 q3 =>
asB (.pv p2) fun r0 =>
popA q3 fun p4 q5 =>
asI .i64 (.pv p4) fun r1 =>
popN q5 <|
popA b fun c6 b7 =>
popA c6 fun v8 c9 =>
as_a49 v8 fun z10 =>
popA c9 fun v11 c12 =>
as_l29 v11 fun z13 =>
popN c12 <|
popN b7 <|
some ((r0, r1), (⟨z10, z13⟩ : S55))
theorem vm_machine_asks_p0_dec_enc (v : AV UU) (b : List (List (AV UU))) (r : (Bool × Int) × S55) (_ : b.length = 1) (h : vm_machine_asks_p0_dec v b = some r) : v = vm_machine_asks_p0_enc r ∧ b = vm_machine_asks_p0_bx r := by
  unfold vm_machine_asks_p0_dec at h
  replace h := asT_inv h; obtain ⟨q1, rfl, h⟩ := h
  replace h := popA_inv h; obtain ⟨p2, q3, rfl, h⟩ := h
  replace h := asB_inv h; obtain ⟨r0, e, h⟩ := h; cases e
  replace h := popA_inv h; obtain ⟨p4, q5, rfl, h⟩ := h
  replace h := asI_inv h; obtain ⟨r1, e, h⟩ := h; cases e
  replace h := popN_inv h; obtain ⟨rfl, h⟩ := h
  replace h := popA_inv h; obtain ⟨c6, b7, rfl, h⟩ := h
  replace h := popA_inv h; obtain ⟨v8, c9, rfl, h⟩ := h
  replace h := as_a49_inv h; obtain ⟨z10, rfl, h⟩ := h
  replace h := popA_inv h; obtain ⟨v11, c12, rfl, h⟩ := h
  replace h := as_l29_inv h; obtain ⟨z13, rfl, h⟩ := h
  replace h := popN_inv h; obtain ⟨rfl, h⟩ := h
  replace h := popN_inv h; obtain ⟨rfl, h⟩ := h
  cases h
  exact ⟨rfl, rfl⟩
theorem vm_machine_asks_p0_eq (k : Nat) (c1 : S43) (bx0 : S55) : bodyK UX (vm_machine_asks_p0_cfg k) (vm_machine_asks_p0_G k) Tryd.f23 [.ptr 1000 0, .pv (.typ (.s43 c1))] [[.pv (.typ (.a49 bx0.f0)), .pv (.typ (.l29 bx0.f1))]] vm_machine_asks_p0_dec = vm_machine_asks_p0 k c1 bx0 := by kernel_rfl
theorem vm_machine_asks_p0_con (k : Nat) (c1 : S43) (bx0 : S55) (r : (Bool × Int) × S55) (h : vm_machine_asks_p0 k c1 bx0 = some r) : Con (X := UX) Tryd.prog 23 [.ptr 1000 0, .pv (.typ (.s43 c1))] [[.pv (.typ (.a49 bx0.f0)), .pv (.typ (.l29 bx0.f1))]] (vm_machine_asks_p0_enc r) (vm_machine_asks_p0_bx r) :=
  con_of_bodyB (args := [.ptr 1000 0, .pv (.typ (.s43 c1))]) (bx := [[.pv (.typ (.a49 bx0.f0)), .pv (.typ (.l29 bx0.f1))]]) xok tok Tryd.func23 vm_machine_asks_p0_body (vm_machine_asks_p0_gok k) rfl (vm_machine_asks_p0_cok k) (of_decide_eq_true (by kernel_rfl)) (.inr (of_decide_eq_true (by kernel_rfl))) (fun v b r hl => vm_machine_asks_p0_dec_enc v b r hl) ((vm_machine_asks_p0_eq k c1 bx0).trans h)
noncomputable def vm_machine_asks_p0_an {ρ : Type} (k : Nat) : An UX ρ := fun args bx K =>
popA args fun v1 a2 =>
asP 1000 0 v1 <|
popA a2 fun v3 a4 =>
as_s43 v3 fun c1 =>
popN a4 <|
popA bx fun c5 b6 =>
popA c5 fun v7 c8 =>
as_a49 v7 fun z9 =>
popA c8 fun v10 c11 =>
as_l29 v10 fun z12 =>
popN c11 <|
popN b6 <|
(vm_machine_asks_p0 k c1 (⟨z9, z12⟩ : S55)).bind fun r => K (vm_machine_asks_p0_enc r) (vm_machine_asks_p0_bx r)
theorem vm_machine_asks_p0_ok {ρ : Type} (k : Nat) : AnsOK Tryd.prog 23 (vm_machine_asks_p0_an (ρ := ρ) k) := by
  intro args bx K r h
  unfold vm_machine_asks_p0_an at h
  replace h := popA_inv h; obtain ⟨v1, a2, rfl, h⟩ := h
  replace h := asP_inv h; obtain ⟨rfl, h⟩ := h
  replace h := popA_inv h; obtain ⟨v3, a4, rfl, h⟩ := h
  replace h := as_s43_inv h; obtain ⟨c1, rfl, h⟩ := h
  replace h := popN_inv h; obtain ⟨rfl, h⟩ := h
  replace h := popA_inv h; obtain ⟨c5, b6, rfl, h⟩ := h
  replace h := popA_inv h; obtain ⟨v7, c8, rfl, h⟩ := h
  replace h := as_a49_inv h; obtain ⟨z9, rfl, h⟩ := h
  replace h := popA_inv h; obtain ⟨v10, c11, rfl, h⟩ := h
  replace h := as_l29_inv h; obtain ⟨z12, rfl, h⟩ := h
  replace h := popN_inv h; obtain ⟨rfl, h⟩ := h
  replace h := popN_inv h; obtain ⟨rfl, h⟩ := h
  replace h := bind_inv h
  obtain ⟨x, hx, h⟩ := h
  exact ⟨there_of Tryd.func23 (by kernel_rfl) vm_machine_asks_p0_body, _, _, h, vm_machine_asks_p0_con k c1 (⟨z9, z12⟩ : S55) x hx⟩

/-! (*cadastre/vm.machine).does -/
noncomputable def vm_machine_does_p0_code : Code := match Tryd.f24.body with | some c => c | none => .skip
theorem vm_machine_does_p0_body : Tryd.f24.body = some vm_machine_does_p0_code := by kernel_rfl
noncomputable def vm_machine_does_p0_G {ρ : Type} (k : Nat) : Ans UX ρ := gk 43 (eval_Un_an k) (gk 44 (eval_Bin_an k) (gnil))
theorem vm_machine_does_p0_gok {ρ : Type} (k : Nat) : GOK Tryd.prog (vm_machine_does_p0_G (ρ := ρ) k) := gok_cons (eval_Un_ok k) (gok_cons (eval_Bin_ok k) (gok_nil))
noncomputable def vm_machine_does_p0_cfg {ρ : Type} (k : Nat) : Cfg UX ρ where
  live i := (assoc [(0, [0, 1]), (1, [0, 3, 4]), (2, [0, 3, 4, 7]), (3, [3, 4]), (4, [0, 3, 4, 7]), (5, [0, 3, 4]), (6, [0, 3, 4, 7]), (7, [0, 3, 4]), (8, [0, 3, 4])] i).getD []
  boxes i := (assoc [(0, []), (1, [3, 4]), (2, [3, 4]), (3, [3, 4]), (4, [3, 4]), (5, [3, 4]), (6, [3, 4]), (7, [3, 4]), (8, [3, 4])] i).getD []
  tk i := (assoc [] i).getD []
  n := 55
  labelR l := (assoc [] l).getD 0
  loops := assoc []
  labels := assoc []
  joins := assoc []
  xl i e := match e with
    | .nxt => assoc [] i
    | .ret => assoc [] i
    | .exit j => (assoc [] i).bind fun l => assoc l j
    | .goto j => (assoc [] i).bind fun l => assoc l j
noncomputable def vm_machine_does_p0_L : List Code := selI [] (loopsOf vm_machine_does_p0_code)
noncomputable def vm_machine_does_p0_J : List Code := selI [] (joinsOf vm_machine_does_p0_code)
noncomputable def vm_machine_does_p0_S : List Code := scopesOf vm_machine_does_p0_code
theorem vm_machine_does_p0_cok {ρ : Type} (k : Nat) : COK (vm_machine_does_p0_cfg (ρ := ρ) k) (vm_machine_does_p0_G k) vm_machine_does_p0_code :=
  cok_of (tl := []) (tj := []) (tb := []) rfl rfl rfl (nil_all (by kernel_rfl)) (nil_all (by kernel_rfl)) (fun p hp => by cases hp)
noncomputable def vm_machine_does_p0_enc (r : (S29 × Int) × S55) : AV UU := .pv (.tup [.typ (.s29 r.1.1), .int .i64 r.1.2])
noncomputable def vm_machine_does_p0_bx (r : (S29 × Int) × S55) : List (List (AV UU)) := [[.pv (.typ (.a49 r.2.f0)), .pv (.typ (.l29 r.2.f1))]]
noncomputable def vm_machine_does_p0_dec (v : AV UU) (b : List (List (AV UU))) : Option ((S29 × Int) × S55) :=
asT v fun q1 =>
popA q1 fun p2 q3 =>
as_s29 (.pv p2) fun r0 =>
popA q3 fun p4 q5 =>
asI .i64 (.pv p4) fun r1 =>
popN q5 <|
popA b fun c6 b7 =>
popA c6 fun v8 c9 =>
as_a49 v8 fun z10 =>
popA c9 fun v11 c12 =>
as_l29 v11 fun z13 =>
popN c12 <|
popN b7 <|
some ((r0, r1), (⟨z10, z13⟩ : S55))
theorem vm_machine_does_p0_dec_enc (v : AV UU) (b : List (List (AV UU))) (r : (S29 × Int) × S55) (_ : b.length = 1) (h : vm_machine_does_p0_dec v b = some r) : v = vm_machine_does_p0_enc r ∧ b = vm_machine_does_p0_bx r := by
  unfold vm_machine_does_p0_dec at h
  replace h := asT_inv h; obtain ⟨q1, rfl, h⟩ := h
  replace h := popA_inv h; obtain ⟨p2, q3, rfl, h⟩ := h
  replace h := as_s29_inv h; obtain ⟨r0, e, h⟩ := h; cases e
  replace h := popA_inv h; obtain ⟨p4, q5, rfl, h⟩ := h
  replace h := asI_inv h; obtain ⟨r1, e, h⟩ := h; cases e
  replace h := popN_inv h; obtain ⟨rfl, h⟩ := h
  replace h := popA_inv h; obtain ⟨c6, b7, rfl, h⟩ := h
  replace h := popA_inv h; obtain ⟨v8, c9, rfl, h⟩ := h
  replace h := as_a49_inv h; obtain ⟨z10, rfl, h⟩ := h
  replace h := popA_inv h; obtain ⟨v11, c12, rfl, h⟩ := h
  replace h := as_l29_inv h; obtain ⟨z13, rfl, h⟩ := h
  replace h := popN_inv h; obtain ⟨rfl, h⟩ := h
  replace h := popN_inv h; obtain ⟨rfl, h⟩ := h
  cases h
  exact ⟨rfl, rfl⟩
theorem vm_machine_does_p0_eq (k : Nat) (c1 : S43) (bx0 : S55) : bodyK UX (vm_machine_does_p0_cfg k) (vm_machine_does_p0_G k) Tryd.f24 [.ptr 1000 0, .pv (.typ (.s43 c1))] [[.pv (.typ (.a49 bx0.f0)), .pv (.typ (.l29 bx0.f1))]] vm_machine_does_p0_dec = vm_machine_does_p0 k c1 bx0 := by kernel_rfl
theorem vm_machine_does_p0_con (k : Nat) (c1 : S43) (bx0 : S55) (r : (S29 × Int) × S55) (h : vm_machine_does_p0 k c1 bx0 = some r) : Con (X := UX) Tryd.prog 24 [.ptr 1000 0, .pv (.typ (.s43 c1))] [[.pv (.typ (.a49 bx0.f0)), .pv (.typ (.l29 bx0.f1))]] (vm_machine_does_p0_enc r) (vm_machine_does_p0_bx r) :=
  con_of_bodyB (args := [.ptr 1000 0, .pv (.typ (.s43 c1))]) (bx := [[.pv (.typ (.a49 bx0.f0)), .pv (.typ (.l29 bx0.f1))]]) xok tok Tryd.func24 vm_machine_does_p0_body (vm_machine_does_p0_gok k) rfl (vm_machine_does_p0_cok k) (of_decide_eq_true (by kernel_rfl)) (.inr (of_decide_eq_true (by kernel_rfl))) (fun v b r hl => vm_machine_does_p0_dec_enc v b r hl) ((vm_machine_does_p0_eq k c1 bx0).trans h)
noncomputable def vm_machine_does_p0_an {ρ : Type} (k : Nat) : An UX ρ := fun args bx K =>
popA args fun v1 a2 =>
asP 1000 0 v1 <|
popA a2 fun v3 a4 =>
as_s43 v3 fun c1 =>
popN a4 <|
popA bx fun c5 b6 =>
popA c5 fun v7 c8 =>
as_a49 v7 fun z9 =>
popA c8 fun v10 c11 =>
as_l29 v10 fun z12 =>
popN c11 <|
popN b6 <|
(vm_machine_does_p0 k c1 (⟨z9, z12⟩ : S55)).bind fun r => K (vm_machine_does_p0_enc r) (vm_machine_does_p0_bx r)
theorem vm_machine_does_p0_ok {ρ : Type} (k : Nat) : AnsOK Tryd.prog 24 (vm_machine_does_p0_an (ρ := ρ) k) := by
  intro args bx K r h
  unfold vm_machine_does_p0_an at h
  replace h := popA_inv h; obtain ⟨v1, a2, rfl, h⟩ := h
  replace h := asP_inv h; obtain ⟨rfl, h⟩ := h
  replace h := popA_inv h; obtain ⟨v3, a4, rfl, h⟩ := h
  replace h := as_s43_inv h; obtain ⟨c1, rfl, h⟩ := h
  replace h := popN_inv h; obtain ⟨rfl, h⟩ := h
  replace h := popA_inv h; obtain ⟨c5, b6, rfl, h⟩ := h
  replace h := popA_inv h; obtain ⟨v7, c8, rfl, h⟩ := h
  replace h := as_a49_inv h; obtain ⟨z9, rfl, h⟩ := h
  replace h := popA_inv h; obtain ⟨v10, c11, rfl, h⟩ := h
  replace h := as_l29_inv h; obtain ⟨z12, rfl, h⟩ := h
  replace h := popN_inv h; obtain ⟨rfl, h⟩ := h
  replace h := popN_inv h; obtain ⟨rfl, h⟩ := h
  replace h := bind_inv h
  obtain ⟨x, hx, h⟩ := h
  exact ⟨there_of Tryd.func24 (by kernel_rfl) vm_machine_does_p0_body, _, _, h, vm_machine_does_p0_con k c1 (⟨z9, z12⟩ : S55) x hx⟩

/-! cadastre/vm.Run -/
noncomputable def vm_Run_code : Code := match Tryd.f10.body with | some c => c | none => .skip
theorem vm_Run_body : Tryd.f10.body = some vm_Run_code := by kernel_rfl
noncomputable def vm_Run_G {ρ : Type} (k : Nat) : Ans UX ρ := gk 12 (vm_Check_an k) (gk 22 (value_All_an k) (gk 23 (vm_machine_asks_p0_an k) (gk 24 (vm_machine_does_p0_an k) (gnil))))
theorem vm_Run_gok {ρ : Type} (k : Nat) : GOK Tryd.prog (vm_Run_G (ρ := ρ) k) := gok_cons (vm_Check_ok k) (gok_cons (value_All_ok k) (gok_cons (vm_machine_asks_p0_ok k) (gok_cons (vm_machine_does_p0_ok k) (gok_nil))))
noncomputable def vm_Run_j22_s {ρ : Type} (k : Nat) : Run UX ρ := fun s K =>
popS 0 s.env fun v1 e2 =>
as_l43 v1 fun l0 =>
popS 2 e2 fun v3 e4 =>
asI .i64 v3 fun most2 =>
popS 6 e4 fun v5 e6 =>
asP 6 0 v5 <|
popS 8 e6 fun v7 e8 =>
asP 31 0 v7 <|
popS 9 e8 fun v9 e10 =>
asI .i64 v9 fun at9 =>
popS 10 e10 fun v11 e12 =>
asI .i64 v11 fun steps10 =>
popS 12 e12 fun v13 e14 =>
asP 12 0 v13 <|
popN e14 <|
popB 6 s.hp fun c15 e16 =>
popA c15 fun v17 c18 =>
asI .i64 v17 fun z19 =>
popA c18 fun v20 c21 =>
asI .i64 v20 fun z22 =>
popA c21 fun v23 c24 =>
asS v23 fun z25 =>
popN c24 <|
popB 12 e16 fun c26 e27 =>
popA c26 fun v28 c29 =>
asI .i64 v28 fun z30 =>
popA c29 fun v31 c32 =>
asI .i64 v31 fun z33 =>
popA c32 fun v34 c35 =>
asI .i64 v34 fun z36 =>
popA c35 fun v37 c38 =>
asI .i64 v37 fun z39 =>
popA c38 fun v40 c41 =>
asI .i64 v40 fun z42 =>
popA c41 fun v43 c44 =>
asI .i64 v43 fun z45 =>
popA c44 fun v46 c47 =>
asS v46 fun z48 =>
popA c47 fun v49 c50 =>
asI .i64 v49 fun z51 =>
popN c50 <|
popB 31 e27 fun c52 e53 =>
popA c52 fun v54 c55 =>
as_a49 v54 fun z56 =>
popA c55 fun v57 c58 =>
as_l29 v57 fun z59 =>
popN c58 <|
popN e53 <|
vm_Run_j22 k (fun l0 most2 at9 steps10 e11 t6 t31 => K .nxt ⟨[(0, .pv (.typ (.l43 l0))), (2, .pv (.int .i64 most2)), (6, .ptr 6 0), (8, .ptr 31 0), (9, .pv (.int .i64 at9)), (10, .pv (.int .i64 steps10)), (11, .pv (.int .i64 e11))], [(6, [.pv (.int .i64 t6.f0), .pv (.int .i64 t6.f1), .pv (.str t6.f2)]), (31, [.pv (.typ (.a49 t31.f0)), .pv (.typ (.l29 t31.f1))])]⟩) l0 most2 at9 steps10 (⟨z19, z22, z25⟩ : S29) (⟨z30, z33, z36, z39, (⟨z42, z45, z48⟩ : S29), z51⟩ : S43) (⟨z56, z59⟩ : S55)
noncomputable def vm_Run_j26_s {ρ : Type} (k : Nat) : Run UX ρ := fun s K =>
popS 0 s.env fun v1 e2 =>
as_l43 v1 fun l0 =>
popS 2 e2 fun v3 e4 =>
asI .i64 v3 fun most2 =>
popS 6 e4 fun v5 e6 =>
asP 6 0 v5 <|
popS 8 e6 fun v7 e8 =>
asP 31 0 v7 <|
popS 9 e8 fun v9 e10 =>
asI .i64 v9 fun at9 =>
popS 10 e10 fun v11 e12 =>
asI .i64 v11 fun steps10 =>
popS 11 e12 fun v13 e14 =>
asI .i64 v13 fun e11 =>
popN e14 <|
popB 6 s.hp fun c15 e16 =>
popA c15 fun v17 c18 =>
asI .i64 v17 fun z19 =>
popA c18 fun v20 c21 =>
asI .i64 v20 fun z22 =>
popA c21 fun v23 c24 =>
asS v23 fun z25 =>
popN c24 <|
popB 31 e16 fun c26 e27 =>
popA c26 fun v28 c29 =>
as_a49 v28 fun z30 =>
popA c29 fun v31 c32 =>
as_l29 v31 fun z33 =>
popN c32 <|
popN e27 <|
vm_Run_j26 k (fun l0 most2 at9 steps10 t6 t31 => K (.goto 0) ⟨[(0, .pv (.typ (.l43 l0))), (2, .pv (.int .i64 most2)), (6, .ptr 6 0), (8, .ptr 31 0), (9, .pv (.int .i64 at9)), (10, .pv (.int .i64 steps10))], [(6, [.pv (.int .i64 t6.f0), .pv (.int .i64 t6.f1), .pv (.str t6.f2)]), (31, [.pv (.typ (.a49 t31.f0)), .pv (.typ (.l29 t31.f1))])]⟩) (fun t7 t6 => K .ret ⟨[(6, .ptr 6 0), (7, .pv (.int .i64 t7))], [(6, [.pv (.int .i64 t6.f0), .pv (.int .i64 t6.f1), .pv (.str t6.f2)])]⟩) l0 most2 at9 steps10 e11 (⟨z19, z22, z25⟩ : S29) (⟨z30, z33⟩ : S55)
noncomputable def vm_Run_j15_s {ρ : Type} (k : Nat) : Run UX ρ := fun s K =>
popS 0 s.env fun v1 e2 =>
as_l43 v1 fun l0 =>
popS 2 e2 fun v3 e4 =>
asI .i64 v3 fun most2 =>
popS 6 e4 fun v5 e6 =>
asP 6 0 v5 <|
popS 8 e6 fun v7 e8 =>
asP 31 0 v7 <|
popS 9 e8 fun v9 e10 =>
asI .i64 v9 fun at9 =>
popS 10 e10 fun v11 e12 =>
asI .i64 v11 fun steps10 =>
popS 12 e12 fun v13 e14 =>
asP 12 0 v13 <|
popN e14 <|
popB 6 s.hp fun c15 e16 =>
popA c15 fun v17 c18 =>
asI .i64 v17 fun z19 =>
popA c18 fun v20 c21 =>
asI .i64 v20 fun z22 =>
popA c21 fun v23 c24 =>
asS v23 fun z25 =>
popN c24 <|
popB 12 e16 fun c26 e27 =>
popA c26 fun v28 c29 =>
asI .i64 v28 fun z30 =>
popA c29 fun v31 c32 =>
asI .i64 v31 fun z33 =>
popA c32 fun v34 c35 =>
asI .i64 v34 fun z36 =>
popA c35 fun v37 c38 =>
asI .i64 v37 fun z39 =>
popA c38 fun v40 c41 =>
asI .i64 v40 fun z42 =>
popA c41 fun v43 c44 =>
asI .i64 v43 fun z45 =>
popA c44 fun v46 c47 =>
asS v46 fun z48 =>
popA c47 fun v49 c50 =>
asI .i64 v49 fun z51 =>
popN c50 <|
popB 31 e27 fun c52 e53 =>
popA c52 fun v54 c55 =>
as_a49 v54 fun z56 =>
popA c55 fun v57 c58 =>
as_l29 v57 fun z59 =>
popN c58 <|
popN e53 <|
vm_Run_j15 k (fun l0 most2 at9 steps10 e11 t6 t31 => K .nxt ⟨[(0, .pv (.typ (.l43 l0))), (2, .pv (.int .i64 most2)), (6, .ptr 6 0), (8, .ptr 31 0), (9, .pv (.int .i64 at9)), (10, .pv (.int .i64 steps10)), (11, .pv (.int .i64 e11))], [(6, [.pv (.int .i64 t6.f0), .pv (.int .i64 t6.f1), .pv (.str t6.f2)]), (31, [.pv (.typ (.a49 t31.f0)), .pv (.typ (.l29 t31.f1))])]⟩) l0 most2 at9 steps10 (⟨z19, z22, z25⟩ : S29) (⟨z30, z33, z36, z39, (⟨z42, z45, z48⟩ : S29), z51⟩ : S43) (⟨z56, z59⟩ : S55)
noncomputable def vm_Run_j7_s {ρ : Type} (k : Nat) : Run UX ρ := fun s K =>
popS 0 s.env fun v1 e2 =>
as_l43 v1 fun l0 =>
popS 2 e2 fun v3 e4 =>
asI .i64 v3 fun most2 =>
popS 6 e4 fun v5 e6 =>
asP 6 0 v5 <|
popS 8 e6 fun v7 e8 =>
asP 31 0 v7 <|
popS 9 e8 fun v9 e10 =>
asI .i64 v9 fun at9 =>
popS 10 e10 fun v11 e12 =>
asI .i64 v11 fun steps10 =>
popN e12 <|
popB 6 s.hp fun c13 e14 =>
popA c13 fun v15 c16 =>
asI .i64 v15 fun z17 =>
popA c16 fun v18 c19 =>
asI .i64 v18 fun z20 =>
popA c19 fun v21 c22 =>
asS v21 fun z23 =>
popN c22 <|
popB 31 e14 fun c24 e25 =>
popA c24 fun v26 c27 =>
as_a49 v26 fun z28 =>
popA c27 fun v29 c30 =>
as_l29 v29 fun z31 =>
popN c30 <|
popN e25 <|
vm_Run_j7 k (fun t7 t6 => K .ret ⟨[(6, .ptr 6 0), (7, .pv (.int .i64 t7))], [(6, [.pv (.int .i64 t6.f0), .pv (.int .i64 t6.f1), .pv (.str t6.f2)])]⟩) (fun l0 most2 at9 steps10 t6 t31 => K (.goto 0) ⟨[(0, .pv (.typ (.l43 l0))), (2, .pv (.int .i64 most2)), (6, .ptr 6 0), (8, .ptr 31 0), (9, .pv (.int .i64 at9)), (10, .pv (.int .i64 steps10))], [(6, [.pv (.int .i64 t6.f0), .pv (.int .i64 t6.f1), .pv (.str t6.f2)]), (31, [.pv (.typ (.a49 t31.f0)), .pv (.typ (.l29 t31.f1))])]⟩) l0 most2 at9 steps10 (⟨z17, z20, z23⟩ : S29) (⟨z28, z31⟩ : S55)
noncomputable def vm_Run_j3_s {ρ : Type} (k : Nat) : Run UX ρ := fun s K =>
popS 0 s.env fun v1 e2 =>
as_l43 v1 fun l0 =>
popS 1 e2 fun v3 e4 =>
as_l29 v3 fun row1 =>
popS 2 e4 fun v5 e6 =>
asI .i64 v5 fun most2 =>
popS 6 e6 fun v7 e8 =>
asP 6 0 v7 <|
popN e8 <|
popB 6 s.hp fun c9 e10 =>
popA c9 fun v11 c12 =>
asI .i64 v11 fun z13 =>
popA c12 fun v14 c15 =>
asI .i64 v14 fun z16 =>
popA c15 fun v17 c18 =>
asS v17 fun z19 =>
popN c18 <|
popN e10 <|
vm_Run_j3 k (fun t7 t6 => K .ret ⟨[(6, .ptr 6 0), (7, .pv (.int .i64 t7))], [(6, [.pv (.int .i64 t6.f0), .pv (.int .i64 t6.f1), .pv (.str t6.f2)])]⟩) (fun l0 most2 at9 steps10 t6 t31 => K (.goto 0) ⟨[(0, .pv (.typ (.l43 l0))), (2, .pv (.int .i64 most2)), (6, .ptr 6 0), (8, .ptr 31 0), (9, .pv (.int .i64 at9)), (10, .pv (.int .i64 steps10))], [(6, [.pv (.int .i64 t6.f0), .pv (.int .i64 t6.f1), .pv (.str t6.f2)]), (31, [.pv (.typ (.a49 t31.f0)), .pv (.typ (.l29 t31.f1))])]⟩) l0 row1 most2 (⟨z13, z16, z19⟩ : S29)
noncomputable def vm_Run_g0_s {ρ : Type} (k : Nat) : Run UX ρ := fun s K =>
popS 0 s.env fun v1 e2 =>
as_l43 v1 fun l0 =>
popS 2 e2 fun v3 e4 =>
asI .i64 v3 fun most2 =>
popS 6 e4 fun v5 e6 =>
asP 6 0 v5 <|
popS 8 e6 fun v7 e8 =>
asP 31 0 v7 <|
popS 9 e8 fun v9 e10 =>
asI .i64 v9 fun at9 =>
popS 10 e10 fun v11 e12 =>
asI .i64 v11 fun steps10 =>
popN e12 <|
popB 6 s.hp fun c13 e14 =>
popA c13 fun v15 c16 =>
asI .i64 v15 fun z17 =>
popA c16 fun v18 c19 =>
asI .i64 v18 fun z20 =>
popA c19 fun v21 c22 =>
asS v21 fun z23 =>
popN c22 <|
popB 31 e14 fun c24 e25 =>
popA c24 fun v26 c27 =>
as_a49 v26 fun z28 =>
popA c27 fun v29 c30 =>
as_l29 v29 fun z31 =>
popN c30 <|
popN e25 <|
vm_Run_g0 k (fun t7 t6 => K .ret ⟨[(6, .ptr 6 0), (7, .pv (.int .i64 t7))], [(6, [.pv (.int .i64 t6.f0), .pv (.int .i64 t6.f1), .pv (.str t6.f2)])]⟩) k l0 most2 at9 steps10 (⟨z17, z20, z23⟩ : S29) (⟨z28, z31⟩ : S55)
noncomputable def vm_Run_cfg {ρ : Type} (k : Nat) : Cfg UX ρ where
  live i := (assoc [(0, [0, 1, 2]), (1, [0, 1, 2, 6]), (2, [6]), (3, [0, 1, 2, 6]), (4, [0, 2, 6, 8]), (5, [0, 2, 6, 8, 9]), (6, [0, 2, 6, 8, 9, 10]), (7, [0, 2, 6, 8, 9, 10]), (8, [6]), (9, [0, 2, 6, 8, 9, 10]), (10, [6]), (11, [0, 2, 6, 8, 9, 10]), (12, [0, 2, 6, 8, 9, 10, 12]), (13, [0, 2, 6, 8, 9, 10, 12]), (14, [0, 2, 6, 8, 9, 10, 12]), (15, [0, 2, 6, 8, 9, 10, 12]), (16, [0, 2, 6, 8, 9, 10, 12, 50]), (17, [6, 8, 12]), (18, [0, 2, 6, 8, 9, 10, 12, 50]), (19, [0, 2, 6, 8, 10, 12]), (20, [0, 2, 6, 8, 9, 10, 12, 50]), (21, [0, 2, 6, 8, 9, 10, 12, 50]), (22, [0, 2, 6, 8, 9, 10, 12]), (23, [0, 2, 6, 8, 9, 10, 12]), (24, [0, 2, 6, 8, 9, 10, 11, 12, 13]), (25, [0, 2, 6, 8, 10, 11, 12]), (26, [0, 2, 6, 8, 9, 10, 11]), (27, [6, 11])] i).getD []
  boxes i := (assoc [(0, []), (1, [6]), (2, [6]), (3, [6]), (4, [6, 31]), (5, [6, 31]), (6, [6, 31]), (7, [6, 31]), (8, [6]), (9, [6, 31]), (10, [6]), (11, [6, 31]), (12, [6, 12, 31]), (13, [6, 12, 31]), (14, [6, 12, 31]), (15, [6, 12, 31]), (16, [6, 12, 31]), (17, [6, 12, 31]), (18, [6, 12, 31]), (19, [6, 12, 31]), (20, [6, 12, 31]), (21, [6, 12, 31]), (22, [6, 12, 31]), (23, [6, 12, 31]), (24, [6, 12, 31]), (25, [6, 12, 31]), (26, [6, 31]), (27, [6])] i).getD []
  tk i := (assoc [] i).getD []
  n := 92
  labelR l := (assoc [(0, 7)] l).getD 0
  loops := assoc []
  labels := assoc [(0, vm_Run_g0_s k)]
  joins := assoc [(22, vm_Run_j22_s k), (26, vm_Run_j26_s k), (15, vm_Run_j15_s k), (7, vm_Run_j7_s k), (3, vm_Run_j3_s k)]
  xl i e := match e with
    | .nxt => assoc [(22, ([0, 2, 6, 8, 9, 10, 11], [6, 31])), (15, ([0, 2, 6, 8, 9, 10, 11], [6, 31]))] i
    | .ret => assoc [(26, ([6, 7], [6])), (7, ([6, 7], [6])), (3, ([6, 7], [6])), (7, ([6, 7], [6]))] i
    | .exit j => (assoc [] i).bind fun l => assoc l j
    | .goto j => (assoc [(26, [(0, ([0, 2, 6, 8, 9, 10], [6, 31]))]), (7, [(0, ([0, 2, 6, 8, 9, 10], [6, 31]))]), (3, [(0, ([0, 2, 6, 8, 9, 10], [6, 31]))])] i).bind fun l => assoc l j
noncomputable def vm_Run_L : List Code := selI [] (loopsOf vm_Run_code)
noncomputable def vm_Run_J : List Code := selI [22, 26, 15, 7, 3] (joinsOf vm_Run_code)
noncomputable def vm_Run_S : List Code := scopesOf vm_Run_code
theorem vm_Run_j3_eq0 {ρ : Type} (k : Nat) (K : Ex → St UU → Option ρ) (l0 : List S43) (row1 : List S29) (most2 : Int) (t6 : S29) : exec UX (vm_Run_cfg k) (vm_Run_G k) (vm_Run_J.getD 0 .skip) ⟨[(0, .pv (.typ (.l43 l0))), (1, .pv (.typ (.l29 row1))), (2, .pv (.int .i64 most2)), (6, .ptr 6 0)], [(6, [.pv (.int .i64 t6.f0), .pv (.int .i64 t6.f1), .pv (.str t6.f2)])]⟩ (nrmK UX (vm_Run_cfg k) 3 K) = vm_Run_j3 k (fun t7 t6 => K .ret ⟨[(6, .ptr 6 0), (7, .pv (.int .i64 t7))], [(6, [.pv (.int .i64 t6.f0), .pv (.int .i64 t6.f1), .pv (.str t6.f2)])]⟩) (fun l0 most2 at9 steps10 t6 t31 => K (.goto 0) ⟨[(0, .pv (.typ (.l43 l0))), (2, .pv (.int .i64 most2)), (6, .ptr 6 0), (8, .ptr 31 0), (9, .pv (.int .i64 at9)), (10, .pv (.int .i64 steps10))], [(6, [.pv (.int .i64 t6.f0), .pv (.int .i64 t6.f1), .pv (.str t6.f2)]), (31, [.pv (.typ (.a49 t31.f0)), .pv (.typ (.l29 t31.f1))])]⟩) l0 row1 most2 t6 := by kernel_rfl
theorem vm_Run_j3_ok0 {ρ : Type} (k : Nat) : JoinOK UX (vm_Run_cfg (ρ := ρ) k) (vm_Run_G k) (vm_Run_J.getD 0 .skip) 3 (vm_Run_j3_s k) := by
  intro s K r h
  obtain ⟨env, hp⟩ := s
  unfold vm_Run_j3_s at h
  replace h := popS_inv h; obtain ⟨v1, e2, rfl, h⟩ := h
  replace h := as_l43_inv h; obtain ⟨l0, rfl, h⟩ := h
  replace h := popS_inv h; obtain ⟨v3, e4, rfl, h⟩ := h
  replace h := as_l29_inv h; obtain ⟨row1, rfl, h⟩ := h
  replace h := popS_inv h; obtain ⟨v5, e6, rfl, h⟩ := h
  replace h := asI_inv h; obtain ⟨most2, rfl, h⟩ := h
  replace h := popS_inv h; obtain ⟨v7, e8, rfl, h⟩ := h
  replace h := asP_inv h; obtain ⟨rfl, h⟩ := h
  replace h := popN_inv h; obtain ⟨rfl, h⟩ := h
  replace h := popB_inv h; obtain ⟨c9, e10, rfl, h⟩ := h
  replace h := popA_inv h; obtain ⟨v11, c12, rfl, h⟩ := h
  replace h := asI_inv h; obtain ⟨z13, rfl, h⟩ := h
  replace h := popA_inv h; obtain ⟨v14, c15, rfl, h⟩ := h
  replace h := asI_inv h; obtain ⟨z16, rfl, h⟩ := h
  replace h := popA_inv h; obtain ⟨v17, c18, rfl, h⟩ := h
  replace h := asS_inv h; obtain ⟨z19, rfl, h⟩ := h
  replace h := popN_inv h; obtain ⟨rfl, h⟩ := h
  replace h := popN_inv h; obtain ⟨rfl, h⟩ := h
  exact (vm_Run_j3_eq0 k K l0 row1 most2 (⟨z13, z16, z19⟩ : S29)).trans h
theorem vm_Run_j7_eq1 {ρ : Type} (k : Nat) (K : Ex → St UU → Option ρ) (l0 : List S43) (most2 : Int) (at9 : Int) (steps10 : Int) (t6 : S29) (t31 : S55) : exec UX (vm_Run_cfg k) (vm_Run_G k) (vm_Run_J.getD 1 .skip) ⟨[(0, .pv (.typ (.l43 l0))), (2, .pv (.int .i64 most2)), (6, .ptr 6 0), (8, .ptr 31 0), (9, .pv (.int .i64 at9)), (10, .pv (.int .i64 steps10))], [(6, [.pv (.int .i64 t6.f0), .pv (.int .i64 t6.f1), .pv (.str t6.f2)]), (31, [.pv (.typ (.a49 t31.f0)), .pv (.typ (.l29 t31.f1))])]⟩ (nrmK UX (vm_Run_cfg k) 7 K) = vm_Run_j7 k (fun t7 t6 => K .ret ⟨[(6, .ptr 6 0), (7, .pv (.int .i64 t7))], [(6, [.pv (.int .i64 t6.f0), .pv (.int .i64 t6.f1), .pv (.str t6.f2)])]⟩) (fun l0 most2 at9 steps10 t6 t31 => K (.goto 0) ⟨[(0, .pv (.typ (.l43 l0))), (2, .pv (.int .i64 most2)), (6, .ptr 6 0), (8, .ptr 31 0), (9, .pv (.int .i64 at9)), (10, .pv (.int .i64 steps10))], [(6, [.pv (.int .i64 t6.f0), .pv (.int .i64 t6.f1), .pv (.str t6.f2)]), (31, [.pv (.typ (.a49 t31.f0)), .pv (.typ (.l29 t31.f1))])]⟩) l0 most2 at9 steps10 t6 t31 := by kernel_rfl
theorem vm_Run_j7_ok1 {ρ : Type} (k : Nat) : JoinOK UX (vm_Run_cfg (ρ := ρ) k) (vm_Run_G k) (vm_Run_J.getD 1 .skip) 7 (vm_Run_j7_s k) := by
  intro s K r h
  obtain ⟨env, hp⟩ := s
  unfold vm_Run_j7_s at h
  replace h := popS_inv h; obtain ⟨v1, e2, rfl, h⟩ := h
  replace h := as_l43_inv h; obtain ⟨l0, rfl, h⟩ := h
  replace h := popS_inv h; obtain ⟨v3, e4, rfl, h⟩ := h
  replace h := asI_inv h; obtain ⟨most2, rfl, h⟩ := h
  replace h := popS_inv h; obtain ⟨v5, e6, rfl, h⟩ := h
  replace h := asP_inv h; obtain ⟨rfl, h⟩ := h
  replace h := popS_inv h; obtain ⟨v7, e8, rfl, h⟩ := h
  replace h := asP_inv h; obtain ⟨rfl, h⟩ := h
  replace h := popS_inv h; obtain ⟨v9, e10, rfl, h⟩ := h
  replace h := asI_inv h; obtain ⟨at9, rfl, h⟩ := h
  replace h := popS_inv h; obtain ⟨v11, e12, rfl, h⟩ := h
  replace h := asI_inv h; obtain ⟨steps10, rfl, h⟩ := h
  replace h := popN_inv h; obtain ⟨rfl, h⟩ := h
  replace h := popB_inv h; obtain ⟨c13, e14, rfl, h⟩ := h
  replace h := popA_inv h; obtain ⟨v15, c16, rfl, h⟩ := h
  replace h := asI_inv h; obtain ⟨z17, rfl, h⟩ := h
  replace h := popA_inv h; obtain ⟨v18, c19, rfl, h⟩ := h
  replace h := asI_inv h; obtain ⟨z20, rfl, h⟩ := h
  replace h := popA_inv h; obtain ⟨v21, c22, rfl, h⟩ := h
  replace h := asS_inv h; obtain ⟨z23, rfl, h⟩ := h
  replace h := popN_inv h; obtain ⟨rfl, h⟩ := h
  replace h := popB_inv h; obtain ⟨c24, e25, rfl, h⟩ := h
  replace h := popA_inv h; obtain ⟨v26, c27, rfl, h⟩ := h
  replace h := as_a49_inv h; obtain ⟨z28, rfl, h⟩ := h
  replace h := popA_inv h; obtain ⟨v29, c30, rfl, h⟩ := h
  replace h := as_l29_inv h; obtain ⟨z31, rfl, h⟩ := h
  replace h := popN_inv h; obtain ⟨rfl, h⟩ := h
  replace h := popN_inv h; obtain ⟨rfl, h⟩ := h
  exact (vm_Run_j7_eq1 k K l0 most2 at9 steps10 (⟨z17, z20, z23⟩ : S29) (⟨z28, z31⟩ : S55)).trans h
theorem vm_Run_j26_eq2 {ρ : Type} (k : Nat) (K : Ex → St UU → Option ρ) (l0 : List S43) (most2 : Int) (at9 : Int) (steps10 : Int) (e11 : Int) (t6 : S29) (t31 : S55) : exec UX (vm_Run_cfg k) (vm_Run_G k) (vm_Run_J.getD 2 .skip) ⟨[(0, .pv (.typ (.l43 l0))), (2, .pv (.int .i64 most2)), (6, .ptr 6 0), (8, .ptr 31 0), (9, .pv (.int .i64 at9)), (10, .pv (.int .i64 steps10)), (11, .pv (.int .i64 e11))], [(6, [.pv (.int .i64 t6.f0), .pv (.int .i64 t6.f1), .pv (.str t6.f2)]), (31, [.pv (.typ (.a49 t31.f0)), .pv (.typ (.l29 t31.f1))])]⟩ (nrmK UX (vm_Run_cfg k) 26 K) = vm_Run_j26 k (fun l0 most2 at9 steps10 t6 t31 => K (.goto 0) ⟨[(0, .pv (.typ (.l43 l0))), (2, .pv (.int .i64 most2)), (6, .ptr 6 0), (8, .ptr 31 0), (9, .pv (.int .i64 at9)), (10, .pv (.int .i64 steps10))], [(6, [.pv (.int .i64 t6.f0), .pv (.int .i64 t6.f1), .pv (.str t6.f2)]), (31, [.pv (.typ (.a49 t31.f0)), .pv (.typ (.l29 t31.f1))])]⟩) (fun t7 t6 => K .ret ⟨[(6, .ptr 6 0), (7, .pv (.int .i64 t7))], [(6, [.pv (.int .i64 t6.f0), .pv (.int .i64 t6.f1), .pv (.str t6.f2)])]⟩) l0 most2 at9 steps10 e11 t6 t31 := by kernel_rfl
theorem vm_Run_j26_ok2 {ρ : Type} (k : Nat) : JoinOK UX (vm_Run_cfg (ρ := ρ) k) (vm_Run_G k) (vm_Run_J.getD 2 .skip) 26 (vm_Run_j26_s k) := by
  intro s K r h
  obtain ⟨env, hp⟩ := s
  unfold vm_Run_j26_s at h
  replace h := popS_inv h; obtain ⟨v1, e2, rfl, h⟩ := h
  replace h := as_l43_inv h; obtain ⟨l0, rfl, h⟩ := h
  replace h := popS_inv h; obtain ⟨v3, e4, rfl, h⟩ := h
  replace h := asI_inv h; obtain ⟨most2, rfl, h⟩ := h
  replace h := popS_inv h; obtain ⟨v5, e6, rfl, h⟩ := h
  replace h := asP_inv h; obtain ⟨rfl, h⟩ := h
  replace h := popS_inv h; obtain ⟨v7, e8, rfl, h⟩ := h
  replace h := asP_inv h; obtain ⟨rfl, h⟩ := h
  replace h := popS_inv h; obtain ⟨v9, e10, rfl, h⟩ := h
  replace h := asI_inv h; obtain ⟨at9, rfl, h⟩ := h
  replace h := popS_inv h; obtain ⟨v11, e12, rfl, h⟩ := h
  replace h := asI_inv h; obtain ⟨steps10, rfl, h⟩ := h
  replace h := popS_inv h; obtain ⟨v13, e14, rfl, h⟩ := h
  replace h := asI_inv h; obtain ⟨e11, rfl, h⟩ := h
  replace h := popN_inv h; obtain ⟨rfl, h⟩ := h
  replace h := popB_inv h; obtain ⟨c15, e16, rfl, h⟩ := h
  replace h := popA_inv h; obtain ⟨v17, c18, rfl, h⟩ := h
  replace h := asI_inv h; obtain ⟨z19, rfl, h⟩ := h
  replace h := popA_inv h; obtain ⟨v20, c21, rfl, h⟩ := h
  replace h := asI_inv h; obtain ⟨z22, rfl, h⟩ := h
  replace h := popA_inv h; obtain ⟨v23, c24, rfl, h⟩ := h
  replace h := asS_inv h; obtain ⟨z25, rfl, h⟩ := h
  replace h := popN_inv h; obtain ⟨rfl, h⟩ := h
  replace h := popB_inv h; obtain ⟨c26, e27, rfl, h⟩ := h
  replace h := popA_inv h; obtain ⟨v28, c29, rfl, h⟩ := h
  replace h := as_a49_inv h; obtain ⟨z30, rfl, h⟩ := h
  replace h := popA_inv h; obtain ⟨v31, c32, rfl, h⟩ := h
  replace h := as_l29_inv h; obtain ⟨z33, rfl, h⟩ := h
  replace h := popN_inv h; obtain ⟨rfl, h⟩ := h
  replace h := popN_inv h; obtain ⟨rfl, h⟩ := h
  exact (vm_Run_j26_eq2 k K l0 most2 at9 steps10 e11 (⟨z19, z22, z25⟩ : S29) (⟨z30, z33⟩ : S55)).trans h
theorem vm_Run_j22_eq3 {ρ : Type} (k : Nat) (K : Ex → St UU → Option ρ) (l0 : List S43) (most2 : Int) (at9 : Int) (steps10 : Int) (t6 : S29) (c12 : S43) (t31 : S55) : exec UX (vm_Run_cfg k) (vm_Run_G k) (vm_Run_J.getD 3 .skip) ⟨[(0, .pv (.typ (.l43 l0))), (2, .pv (.int .i64 most2)), (6, .ptr 6 0), (8, .ptr 31 0), (9, .pv (.int .i64 at9)), (10, .pv (.int .i64 steps10)), (12, .ptr 12 0)], [(6, [.pv (.int .i64 t6.f0), .pv (.int .i64 t6.f1), .pv (.str t6.f2)]), (12, [.pv (.int .i64 c12.f0), .pv (.int .i64 c12.f1), .pv (.int .i64 c12.f2), .pv (.int .i64 c12.f3), .pv (.int .i64 c12.f4.f0), .pv (.int .i64 c12.f4.f1), .pv (.str c12.f4.f2), .pv (.int .i64 c12.f5)]), (31, [.pv (.typ (.a49 t31.f0)), .pv (.typ (.l29 t31.f1))])]⟩ (nrmK UX (vm_Run_cfg k) 22 K) = vm_Run_j22 k (fun l0 most2 at9 steps10 e11 t6 t31 => K .nxt ⟨[(0, .pv (.typ (.l43 l0))), (2, .pv (.int .i64 most2)), (6, .ptr 6 0), (8, .ptr 31 0), (9, .pv (.int .i64 at9)), (10, .pv (.int .i64 steps10)), (11, .pv (.int .i64 e11))], [(6, [.pv (.int .i64 t6.f0), .pv (.int .i64 t6.f1), .pv (.str t6.f2)]), (31, [.pv (.typ (.a49 t31.f0)), .pv (.typ (.l29 t31.f1))])]⟩) l0 most2 at9 steps10 t6 c12 t31 := by kernel_rfl
theorem vm_Run_j22_ok3 {ρ : Type} (k : Nat) : JoinOK UX (vm_Run_cfg (ρ := ρ) k) (vm_Run_G k) (vm_Run_J.getD 3 .skip) 22 (vm_Run_j22_s k) := by
  intro s K r h
  obtain ⟨env, hp⟩ := s
  unfold vm_Run_j22_s at h
  replace h := popS_inv h; obtain ⟨v1, e2, rfl, h⟩ := h
  replace h := as_l43_inv h; obtain ⟨l0, rfl, h⟩ := h
  replace h := popS_inv h; obtain ⟨v3, e4, rfl, h⟩ := h
  replace h := asI_inv h; obtain ⟨most2, rfl, h⟩ := h
  replace h := popS_inv h; obtain ⟨v5, e6, rfl, h⟩ := h
  replace h := asP_inv h; obtain ⟨rfl, h⟩ := h
  replace h := popS_inv h; obtain ⟨v7, e8, rfl, h⟩ := h
  replace h := asP_inv h; obtain ⟨rfl, h⟩ := h
  replace h := popS_inv h; obtain ⟨v9, e10, rfl, h⟩ := h
  replace h := asI_inv h; obtain ⟨at9, rfl, h⟩ := h
  replace h := popS_inv h; obtain ⟨v11, e12, rfl, h⟩ := h
  replace h := asI_inv h; obtain ⟨steps10, rfl, h⟩ := h
  replace h := popS_inv h; obtain ⟨v13, e14, rfl, h⟩ := h
  replace h := asP_inv h; obtain ⟨rfl, h⟩ := h
  replace h := popN_inv h; obtain ⟨rfl, h⟩ := h
  replace h := popB_inv h; obtain ⟨c15, e16, rfl, h⟩ := h
  replace h := popA_inv h; obtain ⟨v17, c18, rfl, h⟩ := h
  replace h := asI_inv h; obtain ⟨z19, rfl, h⟩ := h
  replace h := popA_inv h; obtain ⟨v20, c21, rfl, h⟩ := h
  replace h := asI_inv h; obtain ⟨z22, rfl, h⟩ := h
  replace h := popA_inv h; obtain ⟨v23, c24, rfl, h⟩ := h
  replace h := asS_inv h; obtain ⟨z25, rfl, h⟩ := h
  replace h := popN_inv h; obtain ⟨rfl, h⟩ := h
  replace h := popB_inv h; obtain ⟨c26, e27, rfl, h⟩ := h
  replace h := popA_inv h; obtain ⟨v28, c29, rfl, h⟩ := h
  replace h := asI_inv h; obtain ⟨z30, rfl, h⟩ := h
  replace h := popA_inv h; obtain ⟨v31, c32, rfl, h⟩ := h
  replace h := asI_inv h; obtain ⟨z33, rfl, h⟩ := h
  replace h := popA_inv h; obtain ⟨v34, c35, rfl, h⟩ := h
  replace h := asI_inv h; obtain ⟨z36, rfl, h⟩ := h
  replace h := popA_inv h; obtain ⟨v37, c38, rfl, h⟩ := h
  replace h := asI_inv h; obtain ⟨z39, rfl, h⟩ := h
  replace h := popA_inv h; obtain ⟨v40, c41, rfl, h⟩ := h
  replace h := asI_inv h; obtain ⟨z42, rfl, h⟩ := h
  replace h := popA_inv h; obtain ⟨v43, c44, rfl, h⟩ := h
  replace h := asI_inv h; obtain ⟨z45, rfl, h⟩ := h
  replace h := popA_inv h; obtain ⟨v46, c47, rfl, h⟩ := h
  replace h := asS_inv h; obtain ⟨z48, rfl, h⟩ := h
  replace h := popA_inv h; obtain ⟨v49, c50, rfl, h⟩ := h
  replace h := asI_inv h; obtain ⟨z51, rfl, h⟩ := h
  replace h := popN_inv h; obtain ⟨rfl, h⟩ := h
  replace h := popB_inv h; obtain ⟨c52, e53, rfl, h⟩ := h
  replace h := popA_inv h; obtain ⟨v54, c55, rfl, h⟩ := h
  replace h := as_a49_inv h; obtain ⟨z56, rfl, h⟩ := h
  replace h := popA_inv h; obtain ⟨v57, c58, rfl, h⟩ := h
  replace h := as_l29_inv h; obtain ⟨z59, rfl, h⟩ := h
  replace h := popN_inv h; obtain ⟨rfl, h⟩ := h
  replace h := popN_inv h; obtain ⟨rfl, h⟩ := h
  exact (vm_Run_j22_eq3 k K l0 most2 at9 steps10 (⟨z19, z22, z25⟩ : S29) (⟨z30, z33, z36, z39, (⟨z42, z45, z48⟩ : S29), z51⟩ : S43) (⟨z56, z59⟩ : S55)).trans h
theorem vm_Run_j15_eq4 {ρ : Type} (k : Nat) (K : Ex → St UU → Option ρ) (l0 : List S43) (most2 : Int) (at9 : Int) (steps10 : Int) (t6 : S29) (c12 : S43) (t31 : S55) : exec UX (vm_Run_cfg k) (vm_Run_G k) (vm_Run_J.getD 4 .skip) ⟨[(0, .pv (.typ (.l43 l0))), (2, .pv (.int .i64 most2)), (6, .ptr 6 0), (8, .ptr 31 0), (9, .pv (.int .i64 at9)), (10, .pv (.int .i64 steps10)), (12, .ptr 12 0)], [(6, [.pv (.int .i64 t6.f0), .pv (.int .i64 t6.f1), .pv (.str t6.f2)]), (12, [.pv (.int .i64 c12.f0), .pv (.int .i64 c12.f1), .pv (.int .i64 c12.f2), .pv (.int .i64 c12.f3), .pv (.int .i64 c12.f4.f0), .pv (.int .i64 c12.f4.f1), .pv (.str c12.f4.f2), .pv (.int .i64 c12.f5)]), (31, [.pv (.typ (.a49 t31.f0)), .pv (.typ (.l29 t31.f1))])]⟩ (nrmK UX (vm_Run_cfg k) 15 K) = vm_Run_j15 k (fun l0 most2 at9 steps10 e11 t6 t31 => K .nxt ⟨[(0, .pv (.typ (.l43 l0))), (2, .pv (.int .i64 most2)), (6, .ptr 6 0), (8, .ptr 31 0), (9, .pv (.int .i64 at9)), (10, .pv (.int .i64 steps10)), (11, .pv (.int .i64 e11))], [(6, [.pv (.int .i64 t6.f0), .pv (.int .i64 t6.f1), .pv (.str t6.f2)]), (31, [.pv (.typ (.a49 t31.f0)), .pv (.typ (.l29 t31.f1))])]⟩) l0 most2 at9 steps10 t6 c12 t31 := by kernel_rfl
theorem vm_Run_j15_ok4 {ρ : Type} (k : Nat) : JoinOK UX (vm_Run_cfg (ρ := ρ) k) (vm_Run_G k) (vm_Run_J.getD 4 .skip) 15 (vm_Run_j15_s k) := by
  intro s K r h
  obtain ⟨env, hp⟩ := s
  unfold vm_Run_j15_s at h
  replace h := popS_inv h; obtain ⟨v1, e2, rfl, h⟩ := h
  replace h := as_l43_inv h; obtain ⟨l0, rfl, h⟩ := h
  replace h := popS_inv h; obtain ⟨v3, e4, rfl, h⟩ := h
  replace h := asI_inv h; obtain ⟨most2, rfl, h⟩ := h
  replace h := popS_inv h; obtain ⟨v5, e6, rfl, h⟩ := h
  replace h := asP_inv h; obtain ⟨rfl, h⟩ := h
  replace h := popS_inv h; obtain ⟨v7, e8, rfl, h⟩ := h
  replace h := asP_inv h; obtain ⟨rfl, h⟩ := h
  replace h := popS_inv h; obtain ⟨v9, e10, rfl, h⟩ := h
  replace h := asI_inv h; obtain ⟨at9, rfl, h⟩ := h
  replace h := popS_inv h; obtain ⟨v11, e12, rfl, h⟩ := h
  replace h := asI_inv h; obtain ⟨steps10, rfl, h⟩ := h
  replace h := popS_inv h; obtain ⟨v13, e14, rfl, h⟩ := h
  replace h := asP_inv h; obtain ⟨rfl, h⟩ := h
  replace h := popN_inv h; obtain ⟨rfl, h⟩ := h
  replace h := popB_inv h; obtain ⟨c15, e16, rfl, h⟩ := h
  replace h := popA_inv h; obtain ⟨v17, c18, rfl, h⟩ := h
  replace h := asI_inv h; obtain ⟨z19, rfl, h⟩ := h
  replace h := popA_inv h; obtain ⟨v20, c21, rfl, h⟩ := h
  replace h := asI_inv h; obtain ⟨z22, rfl, h⟩ := h
  replace h := popA_inv h; obtain ⟨v23, c24, rfl, h⟩ := h
  replace h := asS_inv h; obtain ⟨z25, rfl, h⟩ := h
  replace h := popN_inv h; obtain ⟨rfl, h⟩ := h
  replace h := popB_inv h; obtain ⟨c26, e27, rfl, h⟩ := h
  replace h := popA_inv h; obtain ⟨v28, c29, rfl, h⟩ := h
  replace h := asI_inv h; obtain ⟨z30, rfl, h⟩ := h
  replace h := popA_inv h; obtain ⟨v31, c32, rfl, h⟩ := h
  replace h := asI_inv h; obtain ⟨z33, rfl, h⟩ := h
  replace h := popA_inv h; obtain ⟨v34, c35, rfl, h⟩ := h
  replace h := asI_inv h; obtain ⟨z36, rfl, h⟩ := h
  replace h := popA_inv h; obtain ⟨v37, c38, rfl, h⟩ := h
  replace h := asI_inv h; obtain ⟨z39, rfl, h⟩ := h
  replace h := popA_inv h; obtain ⟨v40, c41, rfl, h⟩ := h
  replace h := asI_inv h; obtain ⟨z42, rfl, h⟩ := h
  replace h := popA_inv h; obtain ⟨v43, c44, rfl, h⟩ := h
  replace h := asI_inv h; obtain ⟨z45, rfl, h⟩ := h
  replace h := popA_inv h; obtain ⟨v46, c47, rfl, h⟩ := h
  replace h := asS_inv h; obtain ⟨z48, rfl, h⟩ := h
  replace h := popA_inv h; obtain ⟨v49, c50, rfl, h⟩ := h
  replace h := asI_inv h; obtain ⟨z51, rfl, h⟩ := h
  replace h := popN_inv h; obtain ⟨rfl, h⟩ := h
  replace h := popB_inv h; obtain ⟨c52, e53, rfl, h⟩ := h
  replace h := popA_inv h; obtain ⟨v54, c55, rfl, h⟩ := h
  replace h := as_a49_inv h; obtain ⟨z56, rfl, h⟩ := h
  replace h := popA_inv h; obtain ⟨v57, c58, rfl, h⟩ := h
  replace h := as_l29_inv h; obtain ⟨z59, rfl, h⟩ := h
  replace h := popN_inv h; obtain ⟨rfl, h⟩ := h
  replace h := popN_inv h; obtain ⟨rfl, h⟩ := h
  exact (vm_Run_j15_eq4 k K l0 most2 at9 steps10 (⟨z19, z22, z25⟩ : S29) (⟨z30, z33, z36, z39, (⟨z42, z45, z48⟩ : S29), z51⟩ : S43) (⟨z56, z59⟩ : S55)).trans h
noncomputable def vm_Run_g0_f0 {ρ : Type} (k : Nat) : Run UX ρ := (suff UX (vm_Run_cfg k) (vm_Run_G k) (vm_Run_S.getD 0 .skip) 0).getD fun _ _ => none
theorem vm_Run_g0_eq0 {ρ : Type} (k : Nat) (K : Ex → St UU → Option ρ) : ∀ (n : Nat) (v : (List S43) × Int × Int × Int × S29 × S55), scopeN UX (fun l s => s.at (vm_Run_cfg (ρ := ρ) k).live (vm_Run_cfg (ρ := ρ) k).boxes (some ((vm_Run_cfg (ρ := ρ) k).labelR l))) (suff UX (vm_Run_cfg k) (vm_Run_G k) (vm_Run_S.getD 0 .skip)) (fun l => ((vm_Run_cfg (ρ := ρ) k).labels l).isSome) n (vm_Run_g0_f0 k) ⟨[(0, .pv (.typ (.l43 v.1))), (2, .pv (.int .i64 v.2.1)), (6, .ptr 6 0), (8, .ptr 31 0), (9, .pv (.int .i64 v.2.2.1)), (10, .pv (.int .i64 v.2.2.2.1))], [(6, [.pv (.int .i64 v.2.2.2.2.1.f0), .pv (.int .i64 v.2.2.2.2.1.f1), .pv (.str v.2.2.2.2.1.f2)]), (31, [.pv (.typ (.a49 v.2.2.2.2.2.f0)), .pv (.typ (.l29 v.2.2.2.2.2.f1))])]⟩ (nrmK UX (vm_Run_cfg k) ((vm_Run_cfg (ρ := ρ) k).labelR 0) K) = vm_Run_g0 k (fun t7 t6 => K .ret ⟨[(6, .ptr 6 0), (7, .pv (.int .i64 t7))], [(6, [.pv (.int .i64 t6.f0), .pv (.int .i64 t6.f1), .pv (.str t6.f2)])]⟩) n v.1 v.2.1 v.2.2.1 v.2.2.2.1 v.2.2.2.2.1 v.2.2.2.2.2 :=
  scope_rec (X := UX) (fun _ => vm_Run_g0_f0 k) (fun v => ⟨[(0, .pv (.typ (.l43 v.1))), (2, .pv (.int .i64 v.2.1)), (6, .ptr 6 0), (8, .ptr 31 0), (9, .pv (.int .i64 v.2.2.1)), (10, .pv (.int .i64 v.2.2.2.1))], [(6, [.pv (.int .i64 v.2.2.2.2.1.f0), .pv (.int .i64 v.2.2.2.2.1.f1), .pv (.str v.2.2.2.2.1.f2)]), (31, [.pv (.typ (.a49 v.2.2.2.2.2.f0)), .pv (.typ (.l29 v.2.2.2.2.2.f1))])]⟩) (fun rec v => vm_Run_g0_b k (fun t7 t6 => K .ret ⟨[(6, .ptr 6 0), (7, .pv (.int .i64 t7))], [(6, [.pv (.int .i64 t6.f0), .pv (.int .i64 t6.f1), .pv (.str t6.f2)])]⟩) (fun l0 most2 at9 steps10 t6 t31 => rec (l0, most2, at9, steps10, t6, t31)) v.1 v.2.1 v.2.2.1 v.2.2.2.1 v.2.2.2.2.1 v.2.2.2.2.2) (fun n v => vm_Run_g0 k (fun t7 t6 => K .ret ⟨[(6, .ptr 6 0), (7, .pv (.int .i64 t7))], [(6, [.pv (.int .i64 t6.f0), .pv (.int .i64 t6.f1), .pv (.str t6.f2)])]⟩) n v.1 v.2.1 v.2.2.1 v.2.2.2.1 v.2.2.2.2.1 v.2.2.2.2.2) (fun n v => by kernel_rfl) (fun _ => rfl) (fun _ _ => rfl)
theorem vm_Run_g0_ok0 {ρ : Type} (k : Nat) : LabOK UX (vm_Run_cfg (ρ := ρ) k) (vm_Run_G k) (vm_Run_S.getD 0 .skip) 0 (vm_Run_g0_s k) := by
  intro f hf s K r h
  have hf : vm_Run_g0_f0 k = f := by unfold vm_Run_g0_f0; rw [hf]; rfl
  subst hf
  obtain ⟨env, hp⟩ := s
  unfold vm_Run_g0_s at h
  replace h := popS_inv h; obtain ⟨v1, e2, rfl, h⟩ := h
  replace h := as_l43_inv h; obtain ⟨l0, rfl, h⟩ := h
  replace h := popS_inv h; obtain ⟨v3, e4, rfl, h⟩ := h
  replace h := asI_inv h; obtain ⟨most2, rfl, h⟩ := h
  replace h := popS_inv h; obtain ⟨v5, e6, rfl, h⟩ := h
  replace h := asP_inv h; obtain ⟨rfl, h⟩ := h
  replace h := popS_inv h; obtain ⟨v7, e8, rfl, h⟩ := h
  replace h := asP_inv h; obtain ⟨rfl, h⟩ := h
  replace h := popS_inv h; obtain ⟨v9, e10, rfl, h⟩ := h
  replace h := asI_inv h; obtain ⟨at9, rfl, h⟩ := h
  replace h := popS_inv h; obtain ⟨v11, e12, rfl, h⟩ := h
  replace h := asI_inv h; obtain ⟨steps10, rfl, h⟩ := h
  replace h := popN_inv h; obtain ⟨rfl, h⟩ := h
  replace h := popB_inv h; obtain ⟨c13, e14, rfl, h⟩ := h
  replace h := popA_inv h; obtain ⟨v15, c16, rfl, h⟩ := h
  replace h := asI_inv h; obtain ⟨z17, rfl, h⟩ := h
  replace h := popA_inv h; obtain ⟨v18, c19, rfl, h⟩ := h
  replace h := asI_inv h; obtain ⟨z20, rfl, h⟩ := h
  replace h := popA_inv h; obtain ⟨v21, c22, rfl, h⟩ := h
  replace h := asS_inv h; obtain ⟨z23, rfl, h⟩ := h
  replace h := popN_inv h; obtain ⟨rfl, h⟩ := h
  replace h := popB_inv h; obtain ⟨c24, e25, rfl, h⟩ := h
  replace h := popA_inv h; obtain ⟨v26, c27, rfl, h⟩ := h
  replace h := as_a49_inv h; obtain ⟨z28, rfl, h⟩ := h
  replace h := popA_inv h; obtain ⟨v29, c30, rfl, h⟩ := h
  replace h := as_l29_inv h; obtain ⟨z31, rfl, h⟩ := h
  replace h := popN_inv h; obtain ⟨rfl, h⟩ := h
  replace h := popN_inv h; obtain ⟨rfl, h⟩ := h
  exact ⟨k, (vm_Run_g0_eq0 k K k (l0, most2, at9, steps10, (⟨z17, z20, z23⟩ : S29), (⟨z28, z31⟩ : S55))).trans h⟩
theorem vm_Run_cok {ρ : Type} (k : Nat) : COK (vm_Run_cfg (ρ := ρ) k) (vm_Run_G k) vm_Run_code :=
  cok_of (tl := []) (tj := [(22, vm_Run_j22_s k), (26, vm_Run_j26_s k), (15, vm_Run_j15_s k), (7, vm_Run_j7_s k), (3, vm_Run_j3_s k)]) (tb := [(0, vm_Run_g0_s k)]) rfl rfl rfl (nil_all (by kernel_rfl)) (all_nth 5 (by kernel_rfl) ⟨join_case (by kernel_rfl) rfl (vm_Run_j15_ok4 k), join_case (by kernel_rfl) rfl (vm_Run_j22_ok3 k), join_case (by kernel_rfl) rfl (vm_Run_j26_ok2 k), join_case (by kernel_rfl) rfl (vm_Run_j7_ok1 k), join_case (by kernel_rfl) rfl (vm_Run_j3_ok0 k), trivial⟩) (fun p hp => by
    simp only [List.mem_cons, List.not_mem_nil, or_false] at hp
    subst hp
    · exact all_nth 1 (by kernel_rfl) ⟨vm_Run_g0_ok0 k, trivial⟩)
noncomputable def vm_Run_enc (r : S29 × Int) : AV UU := .pv (.tup [.typ (.s29 r.1), .int .i64 r.2])
noncomputable def vm_Run_dec (v : AV UU) (_ : List (List (AV UU))) : Option (S29 × Int) :=
asT v fun q1 =>
popA q1 fun p2 q3 =>
as_s29 (.pv p2) fun r0 =>
popA q3 fun p4 q5 =>
asI .i64 (.pv p4) fun r1 =>
popN q5 <|
some (r0, r1)
theorem vm_Run_dec_enc (v : AV UU) (b : List (List (AV UU))) (r : S29 × Int) (h : vm_Run_dec v b = some r) : v = vm_Run_enc r := by
  unfold vm_Run_dec at h
  replace h := asT_inv h; obtain ⟨q1, rfl, h⟩ := h
  replace h := popA_inv h; obtain ⟨p2, q3, rfl, h⟩ := h
  replace h := as_s29_inv h; obtain ⟨r0, e, h⟩ := h; cases e
  replace h := popA_inv h; obtain ⟨p4, q5, rfl, h⟩ := h
  replace h := asI_inv h; obtain ⟨r1, e, h⟩ := h; cases e
  replace h := popN_inv h; obtain ⟨rfl, h⟩ := h
  cases h
  rfl
theorem vm_Run_eq (k : Nat) (l0 : List S43) (row1 : List S29) (most2 : Int) : bodyK UX (vm_Run_cfg k) (vm_Run_G k) Tryd.f10 [.pv (.typ (.l43 l0)), .pv (.typ (.l29 row1)), .pv (.int .i64 most2)] [] vm_Run_dec = vm_Run k l0 row1 most2 := by kernel_rfl
theorem vm_Run_con (k : Nat) (l0 : List S43) (row1 : List S29) (most2 : Int) (r : S29 × Int) (h : vm_Run k l0 row1 most2 = some r) : Con (X := UX) Tryd.prog 10 [.pv (.typ (.l43 l0)), .pv (.typ (.l29 row1)), .pv (.int .i64 most2)] [] (vm_Run_enc r) [] :=
  con_of_body xok tok Tryd.func10 vm_Run_body (vm_Run_gok k) rfl (vm_Run_cok k) (of_decide_eq_true (by kernel_rfl)) vm_Run_dec_enc ((vm_Run_eq k l0 row1 most2).trans h)
noncomputable def vm_Run_an {ρ : Type} (k : Nat) : An UX ρ := fun args bx K =>
popA args fun v1 a2 =>
as_l43 v1 fun l0 =>
popA a2 fun v3 a4 =>
as_l29 v3 fun row1 =>
popA a4 fun v5 a6 =>
asI .i64 v5 fun most2 =>
popN a6 <|
popN bx <|
(vm_Run k l0 row1 most2).bind fun r => K (vm_Run_enc r) []
theorem vm_Run_ok {ρ : Type} (k : Nat) : AnsOK Tryd.prog 10 (vm_Run_an (ρ := ρ) k) := by
  intro args bx K r h
  unfold vm_Run_an at h
  replace h := popA_inv h; obtain ⟨v1, a2, rfl, h⟩ := h
  replace h := as_l43_inv h; obtain ⟨l0, rfl, h⟩ := h
  replace h := popA_inv h; obtain ⟨v3, a4, rfl, h⟩ := h
  replace h := as_l29_inv h; obtain ⟨row1, rfl, h⟩ := h
  replace h := popA_inv h; obtain ⟨v5, a6, rfl, h⟩ := h
  replace h := asI_inv h; obtain ⟨most2, rfl, h⟩ := h
  replace h := popN_inv h; obtain ⟨rfl, h⟩ := h
  replace h := popN_inv h; obtain ⟨rfl, h⟩ := h
  replace h := bind_inv h
  obtain ⟨x, hx, h⟩ := h
  exact ⟨there_of Tryd.func10 (by kernel_rfl) vm_Run_body, _, _, h, vm_Run_con k l0 row1 most2 x hx⟩

/-! cadastre/cadastrelaw24.num -/
noncomputable def cadastrelaw24_num_code : Code := match Tryd.f11.body with | some c => c | none => .skip
theorem cadastrelaw24_num_body : Tryd.f11.body = some cadastrelaw24_num_code := by kernel_rfl
noncomputable def cadastrelaw24_num_G {ρ : Type} (k : Nat) : Ans UX ρ := gnil
theorem cadastrelaw24_num_gok {ρ : Type} (k : Nat) : GOK Tryd.prog (cadastrelaw24_num_G (ρ := ρ) k) := gok_nil
noncomputable def cadastrelaw24_num_cfg {ρ : Type} (k : Nat) : Cfg UX ρ where
  live i := (assoc [(0, [0]), (1, [0])] i).getD []
  boxes i := (assoc [(0, []), (1, [])] i).getD []
  tk i := (assoc [] i).getD []
  n := 4
  labelR l := (assoc [] l).getD 0
  loops := assoc []
  labels := assoc []
  joins := assoc []
  xl i e := match e with
    | .nxt => assoc [] i
    | .ret => assoc [] i
    | .exit j => (assoc [] i).bind fun l => assoc l j
    | .goto j => (assoc [] i).bind fun l => assoc l j
noncomputable def cadastrelaw24_num_L : List Code := selI [] (loopsOf cadastrelaw24_num_code)
noncomputable def cadastrelaw24_num_J : List Code := selI [] (joinsOf cadastrelaw24_num_code)
noncomputable def cadastrelaw24_num_S : List Code := scopesOf cadastrelaw24_num_code
theorem cadastrelaw24_num_cok {ρ : Type} (k : Nat) : COK (cadastrelaw24_num_cfg (ρ := ρ) k) (cadastrelaw24_num_G k) cadastrelaw24_num_code :=
  cok_of (tl := []) (tj := []) (tb := []) rfl rfl rfl (nil_all (by kernel_rfl)) (nil_all (by kernel_rfl)) (fun p hp => by cases hp)
noncomputable def cadastrelaw24_num_enc (r : Int) : AV UU := .pv (.int .i64 r)
noncomputable def cadastrelaw24_num_dec (v : AV UU) (_ : List (List (AV UU))) : Option Int :=
asI .i64 v fun r0 =>
some r0
theorem cadastrelaw24_num_dec_enc (v : AV UU) (b : List (List (AV UU))) (r : Int) (h : cadastrelaw24_num_dec v b = some r) : v = cadastrelaw24_num_enc r := by
  unfold cadastrelaw24_num_dec at h
  replace h := asI_inv h; obtain ⟨r0, rfl, h⟩ := h
  cases h
  rfl
theorem cadastrelaw24_num_eq (k : Nat) (e0 : Int) : bodyK UX (cadastrelaw24_num_cfg k) (cadastrelaw24_num_G k) Tryd.f11 [.pv (.int .i64 e0)] [] cadastrelaw24_num_dec = cadastrelaw24_num k e0 := by kernel_rfl
theorem cadastrelaw24_num_con (k : Nat) (e0 : Int) (r : Int) (h : cadastrelaw24_num k e0 = some r) : Con (X := UX) Tryd.prog 11 [.pv (.int .i64 e0)] [] (cadastrelaw24_num_enc r) [] :=
  con_of_body xok tok Tryd.func11 cadastrelaw24_num_body (cadastrelaw24_num_gok k) rfl (cadastrelaw24_num_cok k) (of_decide_eq_true (by kernel_rfl)) cadastrelaw24_num_dec_enc ((cadastrelaw24_num_eq k e0).trans h)
noncomputable def cadastrelaw24_num_an {ρ : Type} (k : Nat) : An UX ρ := fun args bx K =>
popA args fun v1 a2 =>
asI .i64 v1 fun e0 =>
popN a2 <|
popN bx <|
(cadastrelaw24_num k e0).bind fun r => K (cadastrelaw24_num_enc r) []
theorem cadastrelaw24_num_ok {ρ : Type} (k : Nat) : AnsOK Tryd.prog 11 (cadastrelaw24_num_an (ρ := ρ) k) := by
  intro args bx K r h
  unfold cadastrelaw24_num_an at h
  replace h := popA_inv h; obtain ⟨v1, a2, rfl, h⟩ := h
  replace h := asI_inv h; obtain ⟨e0, rfl, h⟩ := h
  replace h := popN_inv h; obtain ⟨rfl, h⟩ := h
  replace h := popN_inv h; obtain ⟨rfl, h⟩ := h
  replace h := bind_inv h
  obtain ⟨x, hx, h⟩ := h
  exact ⟨there_of Tryd.func11 (by kernel_rfl) cadastrelaw24_num_body, _, _, h, cadastrelaw24_num_con k e0 x hx⟩

/-! cadastre/cadastreref0.EqCodes -/
noncomputable def cadastreref0_EqCodes_code : Code := match Tryd.f13.body with | some c => c | none => .skip
theorem cadastreref0_EqCodes_body : Tryd.f13.body = some cadastreref0_EqCodes_code := by kernel_rfl
noncomputable def cadastreref0_EqCodes_G {ρ : Type} (k : Nat) : Ans UX ρ := gnil
theorem cadastreref0_EqCodes_gok {ρ : Type} (k : Nat) : GOK Tryd.prog (cadastreref0_EqCodes_G (ρ := ρ) k) := gok_nil
noncomputable def cadastreref0_EqCodes_l4_s {ρ : Type} (k : Nat) : Run UX ρ := fun s K =>
popS 0 s.env fun v1 e2 =>
as_l43 v1 fun a0 =>
popS 1 e2 fun v3 e4 =>
as_l43 v3 fun b1 =>
popS 5 e4 fun v5 e6 =>
asI .i64 v5 fun i5 =>
popN e6 <|
popN s.hp <|
cadastreref0_EqCodes_l4 k (fun t4 => K .ret ⟨[(4, .pv (.bool t4))], []⟩) (K (.exit 0) ⟨[], []⟩) k a0 b1 i5
noncomputable def cadastreref0_EqCodes_cfg {ρ : Type} (k : Nat) : Cfg UX ρ where
  live i := (assoc [(0, [0, 1]), (1, [0, 1]), (2, []), (3, [0, 1]), (4, [0, 1, 5]), (5, [0, 1, 5]), (6, [0, 1, 5]), (7, []), (8, [])] i).getD []
  boxes i := (assoc [(0, []), (1, []), (2, []), (3, []), (4, []), (5, []), (6, []), (7, []), (8, [])] i).getD []
  tk i := (assoc [] i).getD []
  n := 26
  labelR l := (assoc [] l).getD 0
  loops := assoc [(4, cadastreref0_EqCodes_l4_s k)]
  labels := assoc []
  joins := assoc []
  xl i e := match e with
    | .nxt => assoc [] i
    | .ret => assoc [(4, ([4], []))] i
    | .exit j => (assoc [(4, [(0, ([], []))])] i).bind fun l => assoc l j
    | .goto j => (assoc [] i).bind fun l => assoc l j
noncomputable def cadastreref0_EqCodes_L : List Code := selI [4] (loopsOf cadastreref0_EqCodes_code)
noncomputable def cadastreref0_EqCodes_J : List Code := selI [] (joinsOf cadastreref0_EqCodes_code)
noncomputable def cadastreref0_EqCodes_S : List Code := scopesOf cadastreref0_EqCodes_code
theorem cadastreref0_EqCodes_l4_eq0 {ρ : Type} (k : Nat) (K : Ex → St UU → Option ρ) : ∀ (n : Nat) (v : (List S43) × (List S43) × Int), iterK UX (fun s => s.at (cadastreref0_EqCodes_cfg (ρ := ρ) k).live (cadastreref0_EqCodes_cfg (ρ := ρ) k).boxes (some 4)) (exec UX (cadastreref0_EqCodes_cfg k) (cadastreref0_EqCodes_G k) (cadastreref0_EqCodes_L.getD 0 .skip)) n ⟨[(0, .pv (.typ (.l43 v.1))), (1, .pv (.typ (.l43 v.2.1))), (5, .pv (.int .i64 v.2.2))], []⟩ (nrmK UX (cadastreref0_EqCodes_cfg k) 4 K) = cadastreref0_EqCodes_l4 k (fun t4 => K .ret ⟨[(4, .pv (.bool t4))], []⟩) (K (.exit 0) ⟨[], []⟩) n v.1 v.2.1 v.2.2 :=
  iter_rec (X := UX) (fun v => ⟨[(0, .pv (.typ (.l43 v.1))), (1, .pv (.typ (.l43 v.2.1))), (5, .pv (.int .i64 v.2.2))], []⟩) (fun rec v => cadastreref0_EqCodes_l4_b k (fun t4 => K .ret ⟨[(4, .pv (.bool t4))], []⟩) (K (.exit 0) ⟨[], []⟩) (fun a0 b1 i5 => rec (a0, b1, i5)) v.1 v.2.1 v.2.2) (fun n v => cadastreref0_EqCodes_l4 k (fun t4 => K .ret ⟨[(4, .pv (.bool t4))], []⟩) (K (.exit 0) ⟨[], []⟩) n v.1 v.2.1 v.2.2) (fun n v => by kernel_rfl) (fun _ => rfl) (fun _ _ => rfl)
theorem cadastreref0_EqCodes_l4_ok0 {ρ : Type} (k : Nat) : IterOK UX (cadastreref0_EqCodes_cfg (ρ := ρ) k) (cadastreref0_EqCodes_G k) (cadastreref0_EqCodes_L.getD 0 .skip) 4 (cadastreref0_EqCodes_l4_s k) := by
  intro s K r h
  obtain ⟨env, hp⟩ := s
  unfold cadastreref0_EqCodes_l4_s at h
  replace h := popS_inv h; obtain ⟨v1, e2, rfl, h⟩ := h
  replace h := as_l43_inv h; obtain ⟨a0, rfl, h⟩ := h
  replace h := popS_inv h; obtain ⟨v3, e4, rfl, h⟩ := h
  replace h := as_l43_inv h; obtain ⟨b1, rfl, h⟩ := h
  replace h := popS_inv h; obtain ⟨v5, e6, rfl, h⟩ := h
  replace h := asI_inv h; obtain ⟨i5, rfl, h⟩ := h
  replace h := popN_inv h; obtain ⟨rfl, h⟩ := h
  replace h := popN_inv h; obtain ⟨rfl, h⟩ := h
  exact ⟨k, (cadastreref0_EqCodes_l4_eq0 k K k (a0, b1, i5)).trans h⟩
theorem cadastreref0_EqCodes_cok {ρ : Type} (k : Nat) : COK (cadastreref0_EqCodes_cfg (ρ := ρ) k) (cadastreref0_EqCodes_G k) cadastreref0_EqCodes_code :=
  cok_of (tl := [(4, cadastreref0_EqCodes_l4_s k)]) (tj := []) (tb := []) rfl rfl rfl (all_nth 1 (by kernel_rfl) ⟨iter_case (by kernel_rfl) rfl (cadastreref0_EqCodes_l4_ok0 k), trivial⟩) (nil_all (by kernel_rfl)) (fun p hp => by cases hp)
noncomputable def cadastreref0_EqCodes_enc (r : Bool) : AV UU := .pv (.bool r)
noncomputable def cadastreref0_EqCodes_dec (v : AV UU) (_ : List (List (AV UU))) : Option Bool :=
asB v fun r0 =>
some r0
theorem cadastreref0_EqCodes_dec_enc (v : AV UU) (b : List (List (AV UU))) (r : Bool) (h : cadastreref0_EqCodes_dec v b = some r) : v = cadastreref0_EqCodes_enc r := by
  unfold cadastreref0_EqCodes_dec at h
  replace h := asB_inv h; obtain ⟨r0, rfl, h⟩ := h
  cases h
  rfl
theorem cadastreref0_EqCodes_eq (k : Nat) (a0 : List S43) (b1 : List S43) : bodyK UX (cadastreref0_EqCodes_cfg k) (cadastreref0_EqCodes_G k) Tryd.f13 [.pv (.typ (.l43 a0)), .pv (.typ (.l43 b1))] [] cadastreref0_EqCodes_dec = cadastreref0_EqCodes k a0 b1 := by kernel_rfl
theorem cadastreref0_EqCodes_con (k : Nat) (a0 : List S43) (b1 : List S43) (r : Bool) (h : cadastreref0_EqCodes k a0 b1 = some r) : Con (X := UX) Tryd.prog 13 [.pv (.typ (.l43 a0)), .pv (.typ (.l43 b1))] [] (cadastreref0_EqCodes_enc r) [] :=
  con_of_body xok tok Tryd.func13 cadastreref0_EqCodes_body (cadastreref0_EqCodes_gok k) rfl (cadastreref0_EqCodes_cok k) (of_decide_eq_true (by kernel_rfl)) cadastreref0_EqCodes_dec_enc ((cadastreref0_EqCodes_eq k a0 b1).trans h)
noncomputable def cadastreref0_EqCodes_an {ρ : Type} (k : Nat) : An UX ρ := fun args bx K =>
popA args fun v1 a2 =>
as_l43 v1 fun a0 =>
popA a2 fun v3 a4 =>
as_l43 v3 fun b1 =>
popN a4 <|
popN bx <|
(cadastreref0_EqCodes k a0 b1).bind fun r => K (cadastreref0_EqCodes_enc r) []
theorem cadastreref0_EqCodes_ok {ρ : Type} (k : Nat) : AnsOK Tryd.prog 13 (cadastreref0_EqCodes_an (ρ := ρ) k) := by
  intro args bx K r h
  unfold cadastreref0_EqCodes_an at h
  replace h := popA_inv h; obtain ⟨v1, a2, rfl, h⟩ := h
  replace h := as_l43_inv h; obtain ⟨a0, rfl, h⟩ := h
  replace h := popA_inv h; obtain ⟨v3, a4, rfl, h⟩ := h
  replace h := as_l43_inv h; obtain ⟨b1, rfl, h⟩ := h
  replace h := popN_inv h; obtain ⟨rfl, h⟩ := h
  replace h := popN_inv h; obtain ⟨rfl, h⟩ := h
  replace h := bind_inv h
  obtain ⟨x, hx, h⟩ := h
  exact ⟨there_of Tryd.func13 (by kernel_rfl) cadastreref0_EqCodes_body, _, _, h, cadastreref0_EqCodes_con k a0 b1 x hx⟩
end Go.Proofs.YtjkgphpmdkbpfaaDoor.V
