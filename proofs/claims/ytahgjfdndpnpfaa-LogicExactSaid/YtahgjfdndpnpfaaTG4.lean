/-
  What the program's functions answer: the printed functions' answers.
-/
import Derived.Test.YtahgjfdndpnpfaaTG3
namespace Go.Proofs.Ytahgjfdndpnpfaa.T
open Go Go.AX
/-! cadastre/cadastreref2.Null -/
noncomputable def cadastreref2_Null_code : Code := match Try.f28.body with | some c => c | none => .skip
theorem cadastreref2_Null_body : Try.f28.body = some cadastreref2_Null_code := by kernel_rfl
noncomputable def cadastreref2_Null_G {ρ : Type} (k : Nat) : Ans UX ρ := gk 47 (cadastreref2_Bool_an k) (gnil)
theorem cadastreref2_Null_gok {ρ : Type} (k : Nat) : GOK Try.prog (cadastreref2_Null_G (ρ := ρ) k) := gok_cons (cadastreref2_Bool_ok k) (gok_nil)
noncomputable def cadastreref2_Null_cfg {ρ : Type} (k : Nat) : Cfg UX ρ where
  live i := (assoc [(0, [0, 1]), (1, [0, 3, 4])] i).getD []
  boxes i := (assoc [(0, []), (1, [3, 4])] i).getD []
  tk _ := []
  n := 12
  labelR l := (assoc [] l).getD 0
  loops := assoc []
  labels := assoc []
  joins := assoc []
  xl i e := match e with
    | .nxt => assoc [] i
    | .ret => assoc [] i
    | .exit j => (assoc [] i).bind fun l => assoc l j
    | .goto j => (assoc [] i).bind fun l => assoc l j
noncomputable def cadastreref2_Null_L : List Code := selI [] (loopsOf cadastreref2_Null_code)
noncomputable def cadastreref2_Null_J : List Code := selI [] (joinsOf cadastreref2_Null_code)
noncomputable def cadastreref2_Null_S : List Code := scopesOf cadastreref2_Null_code
theorem cadastreref2_Null_cok {ρ : Type} (k : Nat) : COK (cadastreref2_Null_cfg (ρ := ρ) k) (cadastreref2_Null_G k) cadastreref2_Null_code :=
  cok_of (tl := []) (tj := []) (tb := []) rfl rfl rfl (nil_all (by kernel_rfl)) (nil_all (by kernel_rfl)) (fun p hp => by cases hp)
noncomputable def cadastreref2_Null_enc (r : S23) : AV UU := .pv (.typ (.s23 r))
noncomputable def cadastreref2_Null_dec (v : AV UU) (_ : List (List (AV UU))) : Option S23 :=
as_s23 v fun r0 =>
some r0
theorem cadastreref2_Null_dec_enc (v : AV UU) (b : List (List (AV UU))) (r : S23) (h : cadastreref2_Null_dec v b = some r) : v = cadastreref2_Null_enc r := by
  unfold cadastreref2_Null_dec at h
  replace h := as_s23_inv h; obtain ⟨r0, rfl, h⟩ := h
  cases h
  rfl
theorem cadastreref2_Null_eq (k : Nat) (op0 : Int) (v1 : S23) : bodyK UX (cadastreref2_Null_cfg k) (cadastreref2_Null_G k) Try.f28 [.pv (.int .i64 op0), .pv (.typ (.s23 v1))] [] cadastreref2_Null_dec = cadastreref2_Null k op0 v1 := by kernel_rfl
theorem cadastreref2_Null_con (k : Nat) (op0 : Int) (v1 : S23) (r : S23) (h : cadastreref2_Null k op0 v1 = some r) : Con (X := UX) Try.prog 28 [.pv (.int .i64 op0), .pv (.typ (.s23 v1))] [] (cadastreref2_Null_enc r) [] :=
  con_of_body xok tok Try.func28 cadastreref2_Null_body (cadastreref2_Null_gok k) rfl (cadastreref2_Null_cok k) (of_decide_eq_true (by kernel_rfl)) cadastreref2_Null_dec_enc ((cadastreref2_Null_eq k op0 v1).trans h)
noncomputable def cadastreref2_Null_an {ρ : Type} (k : Nat) : An UX ρ := fun args bx K =>
popA args fun v1 a2 =>
asI .i64 v1 fun op0 =>
popA a2 fun v3 a4 =>
as_s23 v3 fun v1 =>
popN a4 <|
popN bx <|
(cadastreref2_Null k op0 v1).bind fun r => K (cadastreref2_Null_enc r) []
theorem cadastreref2_Null_ok {ρ : Type} (k : Nat) : AnsOK Try.prog 28 (cadastreref2_Null_an (ρ := ρ) k) := by
  intro args bx K r h
  unfold cadastreref2_Null_an at h
  replace h := popA_inv h; obtain ⟨v1, a2, rfl, h⟩ := h
  replace h := asI_inv h; obtain ⟨op0, rfl, h⟩ := h
  replace h := popA_inv h; obtain ⟨v3, a4, rfl, h⟩ := h
  replace h := as_s23_inv h; obtain ⟨v1, rfl, h⟩ := h
  replace h := popN_inv h; obtain ⟨rfl, h⟩ := h
  replace h := popN_inv h; obtain ⟨rfl, h⟩ := h
  replace h := bind_inv h
  obtain ⟨x, hx, h⟩ := h
  exact ⟨there_of Try.func28 (by kernel_rfl) cadastreref2_Null_body, _, _, h, cadastreref2_Null_con k op0 v1 x hx⟩

/-! cadastre/logic.True -/
noncomputable def logic_True_code : Code := match Try.f29.body with | some c => c | none => .skip
theorem logic_True_body : Try.f29.body = some logic_True_code := by kernel_rfl
noncomputable def logic_True_G {ρ : Type} (k : Nat) : Ans UX ρ := gk 43 (logic_truth_an k) (gnil)
theorem logic_True_gok {ρ : Type} (k : Nat) : GOK Try.prog (logic_True_G (ρ := ρ) k) := gok_cons (logic_truth_ok k) (gok_nil)
noncomputable def logic_True_cfg {ρ : Type} (k : Nat) : Cfg UX ρ where
  live i := (assoc [(0, [0]), (1, [1]), (2, [4, 5])] i).getD []
  boxes i := (assoc [(0, []), (1, [1]), (2, [])] i).getD []
  tk _ := []
  n := 18
  labelR l := (assoc [] l).getD 0
  loops := assoc []
  labels := assoc []
  joins := assoc []
  xl i e := match e with
    | .nxt => assoc [] i
    | .ret => assoc [] i
    | .exit j => (assoc [] i).bind fun l => assoc l j
    | .goto j => (assoc [] i).bind fun l => assoc l j
noncomputable def logic_True_L : List Code := selI [] (loopsOf logic_True_code)
noncomputable def logic_True_J : List Code := selI [] (joinsOf logic_True_code)
noncomputable def logic_True_S : List Code := scopesOf logic_True_code
theorem logic_True_cok {ρ : Type} (k : Nat) : COK (logic_True_cfg (ρ := ρ) k) (logic_True_G k) logic_True_code :=
  cok_of (tl := []) (tj := []) (tb := []) rfl rfl rfl (nil_all (by kernel_rfl)) (nil_all (by kernel_rfl)) (fun p hp => by cases hp)
noncomputable def logic_True_enc (r : Bool × Int) : AV UU := .pv (.tup [.bool r.1, .int .i64 r.2])
noncomputable def logic_True_dec (v : AV UU) (_ : List (List (AV UU))) : Option (Bool × Int) :=
asT v fun q1 =>
popA q1 fun p2 q3 =>
asB (.pv p2) fun r0 =>
popA q3 fun p4 q5 =>
asI .i64 (.pv p4) fun r1 =>
popN q5 <|
some (r0, r1)
theorem logic_True_dec_enc (v : AV UU) (b : List (List (AV UU))) (r : Bool × Int) (h : logic_True_dec v b = some r) : v = logic_True_enc r := by
  unfold logic_True_dec at h
  replace h := asT_inv h; obtain ⟨q1, rfl, h⟩ := h
  replace h := popA_inv h; obtain ⟨p2, q3, rfl, h⟩ := h
  replace h := asB_inv h; obtain ⟨r0, e, h⟩ := h; cases e
  replace h := popA_inv h; obtain ⟨p4, q5, rfl, h⟩ := h
  replace h := asI_inv h; obtain ⟨r1, e, h⟩ := h; cases e
  replace h := popN_inv h; obtain ⟨rfl, h⟩ := h
  cases h
  rfl
theorem logic_True_eq (k : Nat) (v0 : S23) : bodyK UX (logic_True_cfg k) (logic_True_G k) Try.f29 [.pv (.typ (.s23 v0))] [] logic_True_dec = logic_True k v0 := by kernel_rfl
theorem logic_True_con (k : Nat) (v0 : S23) (r : Bool × Int) (h : logic_True k v0 = some r) : Con (X := UX) Try.prog 29 [.pv (.typ (.s23 v0))] [] (logic_True_enc r) [] :=
  con_of_body xok tok Try.func29 logic_True_body (logic_True_gok k) rfl (logic_True_cok k) (of_decide_eq_true (by kernel_rfl)) logic_True_dec_enc ((logic_True_eq k v0).trans h)
noncomputable def logic_True_an {ρ : Type} (k : Nat) : An UX ρ := fun args bx K =>
popA args fun v1 a2 =>
as_s23 v1 fun v0 =>
popN a2 <|
popN bx <|
(logic_True k v0).bind fun r => K (logic_True_enc r) []
theorem logic_True_ok {ρ : Type} (k : Nat) : AnsOK Try.prog 29 (logic_True_an (ρ := ρ) k) := by
  intro args bx K r h
  unfold logic_True_an at h
  replace h := popA_inv h; obtain ⟨v1, a2, rfl, h⟩ := h
  replace h := as_s23_inv h; obtain ⟨v0, rfl, h⟩ := h
  replace h := popN_inv h; obtain ⟨rfl, h⟩ := h
  replace h := popN_inv h; obtain ⟨rfl, h⟩ := h
  replace h := bind_inv h
  obtain ⟨x, hx, h⟩ := h
  exact ⟨there_of Try.func29 (by kernel_rfl) logic_True_body, _, _, h, logic_True_con k v0 x hx⟩

/-! cadastre/logic.Not -/
noncomputable def logic_Not_code : Code := match Try.f23.body with | some c => c | none => .skip
theorem logic_Not_body : Try.f23.body = some logic_Not_code := by kernel_rfl
noncomputable def logic_Not_G {ρ : Type} (k : Nat) : Ans UX ρ := gk 43 (logic_truth_an k) (gk 44 (logic_answer_an k) (gnil))
theorem logic_Not_gok {ρ : Type} (k : Nat) : GOK Try.prog (logic_Not_G (ρ := ρ) k) := gok_cons (logic_truth_ok k) (gok_cons (logic_answer_ok k) (gok_nil))
noncomputable def logic_Not_cfg {ρ : Type} (k : Nat) : Cfg UX ρ where
  live i := (assoc [(0, [0]), (1, [1, 2]), (2, [2, 4, 5]), (3, [2, 5]), (4, [2, 4])] i).getD []
  boxes i := (assoc [(0, []), (1, [1, 2]), (2, [2]), (3, [2]), (4, [2])] i).getD []
  tk _ := []
  n := 18
  labelR l := (assoc [] l).getD 0
  loops := assoc []
  labels := assoc []
  joins := assoc []
  xl i e := match e with
    | .nxt => assoc [] i
    | .ret => assoc [] i
    | .exit j => (assoc [] i).bind fun l => assoc l j
    | .goto j => (assoc [] i).bind fun l => assoc l j
noncomputable def logic_Not_L : List Code := selI [] (loopsOf logic_Not_code)
noncomputable def logic_Not_J : List Code := selI [] (joinsOf logic_Not_code)
noncomputable def logic_Not_S : List Code := scopesOf logic_Not_code
theorem logic_Not_cok {ρ : Type} (k : Nat) : COK (logic_Not_cfg (ρ := ρ) k) (logic_Not_G k) logic_Not_code :=
  cok_of (tl := []) (tj := []) (tb := []) rfl rfl rfl (nil_all (by kernel_rfl)) (nil_all (by kernel_rfl)) (fun p hp => by cases hp)
noncomputable def logic_Not_enc (r : S23 × Int) : AV UU := .pv (.tup [.typ (.s23 r.1), .int .i64 r.2])
noncomputable def logic_Not_dec (v : AV UU) (_ : List (List (AV UU))) : Option (S23 × Int) :=
asT v fun q1 =>
popA q1 fun p2 q3 =>
as_s23 (.pv p2) fun r0 =>
popA q3 fun p4 q5 =>
asI .i64 (.pv p4) fun r1 =>
popN q5 <|
some (r0, r1)
theorem logic_Not_dec_enc (v : AV UU) (b : List (List (AV UU))) (r : S23 × Int) (h : logic_Not_dec v b = some r) : v = logic_Not_enc r := by
  unfold logic_Not_dec at h
  replace h := asT_inv h; obtain ⟨q1, rfl, h⟩ := h
  replace h := popA_inv h; obtain ⟨p2, q3, rfl, h⟩ := h
  replace h := as_s23_inv h; obtain ⟨r0, e, h⟩ := h; cases e
  replace h := popA_inv h; obtain ⟨p4, q5, rfl, h⟩ := h
  replace h := asI_inv h; obtain ⟨r1, e, h⟩ := h; cases e
  replace h := popN_inv h; obtain ⟨rfl, h⟩ := h
  cases h
  rfl
theorem logic_Not_eq (k : Nat) (v0 : S23) : bodyK UX (logic_Not_cfg k) (logic_Not_G k) Try.f23 [.pv (.typ (.s23 v0))] [] logic_Not_dec = logic_Not k v0 := by kernel_rfl
theorem logic_Not_con (k : Nat) (v0 : S23) (r : S23 × Int) (h : logic_Not k v0 = some r) : Con (X := UX) Try.prog 23 [.pv (.typ (.s23 v0))] [] (logic_Not_enc r) [] :=
  con_of_body xok tok Try.func23 logic_Not_body (logic_Not_gok k) rfl (logic_Not_cok k) (of_decide_eq_true (by kernel_rfl)) logic_Not_dec_enc ((logic_Not_eq k v0).trans h)
noncomputable def logic_Not_an {ρ : Type} (k : Nat) : An UX ρ := fun args bx K =>
popA args fun v1 a2 =>
as_s23 v1 fun v0 =>
popN a2 <|
popN bx <|
(logic_Not k v0).bind fun r => K (logic_Not_enc r) []
theorem logic_Not_ok {ρ : Type} (k : Nat) : AnsOK Try.prog 23 (logic_Not_an (ρ := ρ) k) := by
  intro args bx K r h
  unfold logic_Not_an at h
  replace h := popA_inv h; obtain ⟨v1, a2, rfl, h⟩ := h
  replace h := as_s23_inv h; obtain ⟨v0, rfl, h⟩ := h
  replace h := popN_inv h; obtain ⟨rfl, h⟩ := h
  replace h := popN_inv h; obtain ⟨rfl, h⟩ := h
  replace h := bind_inv h
  obtain ⟨x, hx, h⟩ := h
  exact ⟨there_of Try.func23 (by kernel_rfl) logic_Not_body, _, _, h, logic_Not_con k v0 x hx⟩

/-! cadastre/cadastrelaw3.is -/
noncomputable def cadastrelaw3_is_code : Code := match Try.f30.body with | some c => c | none => .skip
theorem cadastrelaw3_is_body : Try.f30.body = some cadastrelaw3_is_code := by kernel_rfl
noncomputable def cadastrelaw3_is_G {ρ : Type} (k : Nat) : Ans UX ρ := gk 19 (cadastrelaw3_num_an k) (gnil)
theorem cadastrelaw3_is_gok {ρ : Type} (k : Nat) : GOK Try.prog (cadastrelaw3_is_G (ρ := ρ) k) := gok_cons (cadastrelaw3_num_ok k) (gok_nil)
noncomputable def cadastrelaw3_is_cfg {ρ : Type} (k : Nat) : Cfg UX ρ where
  live i := (assoc [(0, [0, 1, 2, 3]), (1, [1, 3, 4, 6])] i).getD []
  boxes i := (assoc [(0, []), (1, [4, 6])] i).getD []
  tk _ := []
  n := 18
  labelR l := (assoc [] l).getD 0
  loops := assoc []
  labels := assoc []
  joins := assoc []
  xl i e := match e with
    | .nxt => assoc [] i
    | .ret => assoc [] i
    | .exit j => (assoc [] i).bind fun l => assoc l j
    | .goto j => (assoc [] i).bind fun l => assoc l j
noncomputable def cadastrelaw3_is_L : List Code := selI [] (loopsOf cadastrelaw3_is_code)
noncomputable def cadastrelaw3_is_J : List Code := selI [] (joinsOf cadastrelaw3_is_code)
noncomputable def cadastrelaw3_is_S : List Code := scopesOf cadastrelaw3_is_code
theorem cadastrelaw3_is_cok {ρ : Type} (k : Nat) : COK (cadastrelaw3_is_cfg (ρ := ρ) k) (cadastrelaw3_is_G k) cadastrelaw3_is_code :=
  cok_of (tl := []) (tj := []) (tb := []) rfl rfl rfl (nil_all (by kernel_rfl)) (nil_all (by kernel_rfl)) (fun p hp => by cases hp)
noncomputable def cadastrelaw3_is_enc (r : Bool) : AV UU := .pv (.bool r)
noncomputable def cadastrelaw3_is_dec (v : AV UU) (_ : List (List (AV UU))) : Option Bool :=
asB v fun r0 =>
some r0
theorem cadastrelaw3_is_dec_enc (v : AV UU) (b : List (List (AV UU))) (r : Bool) (h : cadastrelaw3_is_dec v b = some r) : v = cadastrelaw3_is_enc r := by
  unfold cadastrelaw3_is_dec at h
  replace h := asB_inv h; obtain ⟨r0, rfl, h⟩ := h
  cases h
  rfl
theorem cadastrelaw3_is_eq (k : Nat) (v0 : S23) (e1 : Int) (want2 : S23) (bad3 : Int) : bodyK UX (cadastrelaw3_is_cfg k) (cadastrelaw3_is_G k) Try.f30 [.pv (.typ (.s23 v0)), .pv (.int .i64 e1), .pv (.typ (.s23 want2)), .pv (.int .i64 bad3)] [] cadastrelaw3_is_dec = cadastrelaw3_is k v0 e1 want2 bad3 := by kernel_rfl
theorem cadastrelaw3_is_con (k : Nat) (v0 : S23) (e1 : Int) (want2 : S23) (bad3 : Int) (r : Bool) (h : cadastrelaw3_is k v0 e1 want2 bad3 = some r) : Con (X := UX) Try.prog 30 [.pv (.typ (.s23 v0)), .pv (.int .i64 e1), .pv (.typ (.s23 want2)), .pv (.int .i64 bad3)] [] (cadastrelaw3_is_enc r) [] :=
  con_of_body xok tok Try.func30 cadastrelaw3_is_body (cadastrelaw3_is_gok k) rfl (cadastrelaw3_is_cok k) (of_decide_eq_true (by kernel_rfl)) cadastrelaw3_is_dec_enc ((cadastrelaw3_is_eq k v0 e1 want2 bad3).trans h)
noncomputable def cadastrelaw3_is_an {ρ : Type} (k : Nat) : An UX ρ := fun args bx K =>
popA args fun v1 a2 =>
as_s23 v1 fun v0 =>
popA a2 fun v3 a4 =>
asI .i64 v3 fun e1 =>
popA a4 fun v5 a6 =>
as_s23 v5 fun want2 =>
popA a6 fun v7 a8 =>
asI .i64 v7 fun bad3 =>
popN a8 <|
popN bx <|
(cadastrelaw3_is k v0 e1 want2 bad3).bind fun r => K (cadastrelaw3_is_enc r) []
theorem cadastrelaw3_is_ok {ρ : Type} (k : Nat) : AnsOK Try.prog 30 (cadastrelaw3_is_an (ρ := ρ) k) := by
  intro args bx K r h
  unfold cadastrelaw3_is_an at h
  replace h := popA_inv h; obtain ⟨v1, a2, rfl, h⟩ := h
  replace h := as_s23_inv h; obtain ⟨v0, rfl, h⟩ := h
  replace h := popA_inv h; obtain ⟨v3, a4, rfl, h⟩ := h
  replace h := asI_inv h; obtain ⟨e1, rfl, h⟩ := h
  replace h := popA_inv h; obtain ⟨v5, a6, rfl, h⟩ := h
  replace h := as_s23_inv h; obtain ⟨want2, rfl, h⟩ := h
  replace h := popA_inv h; obtain ⟨v7, a8, rfl, h⟩ := h
  replace h := asI_inv h; obtain ⟨bad3, rfl, h⟩ := h
  replace h := popN_inv h; obtain ⟨rfl, h⟩ := h
  replace h := popN_inv h; obtain ⟨rfl, h⟩ := h
  replace h := bind_inv h
  obtain ⟨x, hx, h⟩ := h
  exact ⟨there_of Try.func30 (by kernel_rfl) cadastrelaw3_is_body, _, _, h, cadastrelaw3_is_con k v0 e1 want2 bad3 x hx⟩
end Go.Proofs.Ytahgjfdndpnpfaa.T
