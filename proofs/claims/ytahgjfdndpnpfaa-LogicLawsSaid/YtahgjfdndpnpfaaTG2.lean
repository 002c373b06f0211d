/-
  What the program's functions answer: the printed functions' answers.
-/
import Derived.Test.YtahgjfdndpnpfaaTG1
namespace Go.Proofs.Ytahgjfdndpnpfaa.T
open Go Go.AX
/-! cadastre/logic.Null -/
noncomputable def logic_Null_code : Code := match Try.f17.body with | some c => c | none => .skip
theorem logic_Null_body : Try.f17.body = some logic_Null_code := by kernel_rfl
noncomputable def logic_Null_G {ρ : Type} (k : Nat) : Ans UX ρ := gk 40 (value_Good_an k) (gk 41 (logic_said_an k) (gnil))
theorem logic_Null_gok {ρ : Type} (k : Nat) : GOK Try.prog (logic_Null_G (ρ := ρ) k) := gok_cons (value_Good_ok k) (gok_cons (logic_said_ok k) (gok_nil))
noncomputable def logic_Null_cfg {ρ : Type} (k : Nat) : Cfg UX ρ where
  live i := (assoc [(0, [0, 1]), (1, [0, 3, 4]), (2, [4]), (3, [0, 3, 4])] i).getD []
  boxes i := (assoc [(0, []), (1, [3, 4]), (2, [4]), (3, [3, 4])] i).getD []
  tk _ := []
  n := 25
  labelR l := (assoc [] l).getD 0
  loops := assoc []
  labels := assoc []
  joins := assoc []
  xl i e := match e with
    | .nxt => assoc [] i
    | .ret => assoc [] i
    | .exit j => (assoc [] i).bind fun l => assoc l j
    | .goto j => (assoc [] i).bind fun l => assoc l j
noncomputable def logic_Null_L : List Code := selI [] (loopsOf logic_Null_code)
noncomputable def logic_Null_J : List Code := selI [] (joinsOf logic_Null_code)
noncomputable def logic_Null_S : List Code := scopesOf logic_Null_code
theorem logic_Null_cok {ρ : Type} (k : Nat) : COK (logic_Null_cfg (ρ := ρ) k) (logic_Null_G k) logic_Null_code :=
  cok_of (tl := []) (tj := []) (tb := []) rfl rfl rfl (nil_all (by kernel_rfl)) (nil_all (by kernel_rfl)) (fun p hp => by cases hp)
noncomputable def logic_Null_enc (r : S23 × Int) : AV UU := .pv (.tup [.typ (.s23 r.1), .int .i64 r.2])
noncomputable def logic_Null_dec (v : AV UU) (_ : List (List (AV UU))) : Option (S23 × Int) :=
asT v fun q1 =>
popA q1 fun p2 q3 =>
as_s23 (.pv p2) fun r0 =>
popA q3 fun p4 q5 =>
asI .i64 (.pv p4) fun r1 =>
popN q5 <|
some (r0, r1)
theorem logic_Null_dec_enc (v : AV UU) (b : List (List (AV UU))) (r : S23 × Int) (h : logic_Null_dec v b = some r) : v = logic_Null_enc r := by
  unfold logic_Null_dec at h
  replace h := asT_inv h; obtain ⟨q1, rfl, h⟩ := h
  replace h := popA_inv h; obtain ⟨p2, q3, rfl, h⟩ := h
  replace h := as_s23_inv h; obtain ⟨r0, e, h⟩ := h; cases e
  replace h := popA_inv h; obtain ⟨p4, q5, rfl, h⟩ := h
  replace h := asI_inv h; obtain ⟨r1, e, h⟩ := h; cases e
  replace h := popN_inv h; obtain ⟨rfl, h⟩ := h
  cases h
  rfl
theorem logic_Null_eq (k : Nat) (op0 : Int) (v1 : S23) : bodyK UX (logic_Null_cfg k) (logic_Null_G k) Try.f17 [.pv (.int .i64 op0), .pv (.typ (.s23 v1))] [] logic_Null_dec = logic_Null k op0 v1 := by kernel_rfl
theorem logic_Null_con (k : Nat) (op0 : Int) (v1 : S23) (r : S23 × Int) (h : logic_Null k op0 v1 = some r) : Con (X := UX) Try.prog 17 [.pv (.int .i64 op0), .pv (.typ (.s23 v1))] [] (logic_Null_enc r) [] :=
  con_of_body xok tok Try.func17 logic_Null_body (logic_Null_gok k) rfl (logic_Null_cok k) (of_decide_eq_true (by kernel_rfl)) logic_Null_dec_enc ((logic_Null_eq k op0 v1).trans h)
noncomputable def logic_Null_an {ρ : Type} (k : Nat) : An UX ρ := fun args bx K =>
popA args fun v1 a2 =>
asI .i64 v1 fun op0 =>
popA a2 fun v3 a4 =>
as_s23 v3 fun v1 =>
popN a4 <|
popN bx <|
(logic_Null k op0 v1).bind fun r => K (logic_Null_enc r) []
theorem logic_Null_ok {ρ : Type} (k : Nat) : AnsOK Try.prog 17 (logic_Null_an (ρ := ρ) k) := by
  intro args bx K r h
  unfold logic_Null_an at h
  replace h := popA_inv h; obtain ⟨v1, a2, rfl, h⟩ := h
  replace h := asI_inv h; obtain ⟨op0, rfl, h⟩ := h
  replace h := popA_inv h; obtain ⟨v3, a4, rfl, h⟩ := h
  replace h := as_s23_inv h; obtain ⟨v1, rfl, h⟩ := h
  replace h := popN_inv h; obtain ⟨rfl, h⟩ := h
  replace h := popN_inv h; obtain ⟨rfl, h⟩ := h
  replace h := bind_inv h
  obtain ⟨x, hx, h⟩ := h
  exact ⟨there_of Try.func17 (by kernel_rfl) logic_Null_body, _, _, h, logic_Null_con k op0 v1 x hx⟩

/-! cadastre/cadastreref2.Int -/
noncomputable def cadastreref2_Int_code : Code := match Try.f18.body with | some c => c | none => .skip
theorem cadastreref2_Int_body : Try.f18.body = some cadastreref2_Int_code := by kernel_rfl
noncomputable def cadastreref2_Int_G {ρ : Type} (k : Nat) : Ans UX ρ := gnil
theorem cadastreref2_Int_gok {ρ : Type} (k : Nat) : GOK Try.prog (cadastreref2_Int_G (ρ := ρ) k) := gok_nil
noncomputable def cadastreref2_Int_cfg {ρ : Type} (k : Nat) : Cfg UX ρ where
  live i := (assoc [(0, [0]), (1, [0, 2])] i).getD []
  boxes i := (assoc [(0, []), (1, [2])] i).getD []
  tk _ := []
  n := 5
  labelR l := (assoc [] l).getD 0
  loops := assoc []
  labels := assoc []
  joins := assoc []
  xl i e := match e with
    | .nxt => assoc [] i
    | .ret => assoc [] i
    | .exit j => (assoc [] i).bind fun l => assoc l j
    | .goto j => (assoc [] i).bind fun l => assoc l j
noncomputable def cadastreref2_Int_L : List Code := selI [] (loopsOf cadastreref2_Int_code)
noncomputable def cadastreref2_Int_J : List Code := selI [] (joinsOf cadastreref2_Int_code)
noncomputable def cadastreref2_Int_S : List Code := scopesOf cadastreref2_Int_code
theorem cadastreref2_Int_cok {ρ : Type} (k : Nat) : COK (cadastreref2_Int_cfg (ρ := ρ) k) (cadastreref2_Int_G k) cadastreref2_Int_code :=
  cok_of (tl := []) (tj := []) (tb := []) rfl rfl rfl (nil_all (by kernel_rfl)) (nil_all (by kernel_rfl)) (fun p hp => by cases hp)
noncomputable def cadastreref2_Int_enc (r : S23) : AV UU := .pv (.typ (.s23 r))
noncomputable def cadastreref2_Int_dec (v : AV UU) (_ : List (List (AV UU))) : Option S23 :=
as_s23 v fun r0 =>
some r0
theorem cadastreref2_Int_dec_enc (v : AV UU) (b : List (List (AV UU))) (r : S23) (h : cadastreref2_Int_dec v b = some r) : v = cadastreref2_Int_enc r := by
  unfold cadastreref2_Int_dec at h
  replace h := as_s23_inv h; obtain ⟨r0, rfl, h⟩ := h
  cases h
  rfl
theorem cadastreref2_Int_eq (k : Nat) (n0 : Int) : bodyK UX (cadastreref2_Int_cfg k) (cadastreref2_Int_G k) Try.f18 [.pv (.int .i64 n0)] [] cadastreref2_Int_dec = cadastreref2_Int k n0 := by kernel_rfl
theorem cadastreref2_Int_con (k : Nat) (n0 : Int) (r : S23) (h : cadastreref2_Int k n0 = some r) : Con (X := UX) Try.prog 18 [.pv (.int .i64 n0)] [] (cadastreref2_Int_enc r) [] :=
  con_of_body xok tok Try.func18 cadastreref2_Int_body (cadastreref2_Int_gok k) rfl (cadastreref2_Int_cok k) (of_decide_eq_true (by kernel_rfl)) cadastreref2_Int_dec_enc ((cadastreref2_Int_eq k n0).trans h)
noncomputable def cadastreref2_Int_an {ρ : Type} (k : Nat) : An UX ρ := fun args bx K =>
popA args fun v1 a2 =>
asI .i64 v1 fun n0 =>
popN a2 <|
popN bx <|
(cadastreref2_Int k n0).bind fun r => K (cadastreref2_Int_enc r) []
theorem cadastreref2_Int_ok {ρ : Type} (k : Nat) : AnsOK Try.prog 18 (cadastreref2_Int_an (ρ := ρ) k) := by
  intro args bx K r h
  unfold cadastreref2_Int_an at h
  replace h := popA_inv h; obtain ⟨v1, a2, rfl, h⟩ := h
  replace h := asI_inv h; obtain ⟨n0, rfl, h⟩ := h
  replace h := popN_inv h; obtain ⟨rfl, h⟩ := h
  replace h := popN_inv h; obtain ⟨rfl, h⟩ := h
  replace h := bind_inv h
  obtain ⟨x, hx, h⟩ := h
  exact ⟨there_of Try.func18 (by kernel_rfl) cadastreref2_Int_body, _, _, h, cadastreref2_Int_con k n0 x hx⟩

/-! cadastre/cadastrelaw3.num -/
noncomputable def cadastrelaw3_num_code : Code := match Try.f19.body with | some c => c | none => .skip
theorem cadastrelaw3_num_body : Try.f19.body = some cadastrelaw3_num_code := by kernel_rfl
noncomputable def cadastrelaw3_num_G {ρ : Type} (k : Nat) : Ans UX ρ := gnil
theorem cadastrelaw3_num_gok {ρ : Type} (k : Nat) : GOK Try.prog (cadastrelaw3_num_G (ρ := ρ) k) := gok_nil
noncomputable def cadastrelaw3_num_cfg {ρ : Type} (k : Nat) : Cfg UX ρ where
  live i := (assoc [(0, [0]), (1, [0])] i).getD []
  boxes i := (assoc [(0, []), (1, [])] i).getD []
  tk _ := []
  n := 4
  labelR l := (assoc [] l).getD 0
  loops := assoc []
  labels := assoc []
  joins := assoc []
  xl i e := match e with
    | .nxt => assoc [] i
    | .ret => assoc [] i
    | .exit j => (assoc [] i).bind fun l => assoc l j
    | .goto j => (assoc [] i).bind fun l => assoc l j
noncomputable def cadastrelaw3_num_L : List Code := selI [] (loopsOf cadastrelaw3_num_code)
noncomputable def cadastrelaw3_num_J : List Code := selI [] (joinsOf cadastrelaw3_num_code)
noncomputable def cadastrelaw3_num_S : List Code := scopesOf cadastrelaw3_num_code
theorem cadastrelaw3_num_cok {ρ : Type} (k : Nat) : COK (cadastrelaw3_num_cfg (ρ := ρ) k) (cadastrelaw3_num_G k) cadastrelaw3_num_code :=
  cok_of (tl := []) (tj := []) (tb := []) rfl rfl rfl (nil_all (by kernel_rfl)) (nil_all (by kernel_rfl)) (fun p hp => by cases hp)
noncomputable def cadastrelaw3_num_enc (r : Int) : AV UU := .pv (.int .i64 r)
noncomputable def cadastrelaw3_num_dec (v : AV UU) (_ : List (List (AV UU))) : Option Int :=
asI .i64 v fun r0 =>
some r0
theorem cadastrelaw3_num_dec_enc (v : AV UU) (b : List (List (AV UU))) (r : Int) (h : cadastrelaw3_num_dec v b = some r) : v = cadastrelaw3_num_enc r := by
  unfold cadastrelaw3_num_dec at h
  replace h := asI_inv h; obtain ⟨r0, rfl, h⟩ := h
  cases h
  rfl
theorem cadastrelaw3_num_eq (k : Nat) (e0 : Int) : bodyK UX (cadastrelaw3_num_cfg k) (cadastrelaw3_num_G k) Try.f19 [.pv (.int .i64 e0)] [] cadastrelaw3_num_dec = cadastrelaw3_num k e0 := by kernel_rfl
theorem cadastrelaw3_num_con (k : Nat) (e0 : Int) (r : Int) (h : cadastrelaw3_num k e0 = some r) : Con (X := UX) Try.prog 19 [.pv (.int .i64 e0)] [] (cadastrelaw3_num_enc r) [] :=
  con_of_body xok tok Try.func19 cadastrelaw3_num_body (cadastrelaw3_num_gok k) rfl (cadastrelaw3_num_cok k) (of_decide_eq_true (by kernel_rfl)) cadastrelaw3_num_dec_enc ((cadastrelaw3_num_eq k e0).trans h)
noncomputable def cadastrelaw3_num_an {ρ : Type} (k : Nat) : An UX ρ := fun args bx K =>
popA args fun v1 a2 =>
asI .i64 v1 fun e0 =>
popN a2 <|
popN bx <|
(cadastrelaw3_num k e0).bind fun r => K (cadastrelaw3_num_enc r) []
theorem cadastrelaw3_num_ok {ρ : Type} (k : Nat) : AnsOK Try.prog 19 (cadastrelaw3_num_an (ρ := ρ) k) := by
  intro args bx K r h
  unfold cadastrelaw3_num_an at h
  replace h := popA_inv h; obtain ⟨v1, a2, rfl, h⟩ := h
  replace h := asI_inv h; obtain ⟨e0, rfl, h⟩ := h
  replace h := popN_inv h; obtain ⟨rfl, h⟩ := h
  replace h := popN_inv h; obtain ⟨rfl, h⟩ := h
  replace h := bind_inv h
  obtain ⟨x, hx, h⟩ := h
  exact ⟨there_of Try.func19 (by kernel_rfl) cadastrelaw3_num_body, _, _, h, cadastrelaw3_num_con k e0 x hx⟩

/-! cadastre/value.sign -/
noncomputable def value_sign_code : Code := match Try.f48.body with | some c => c | none => .skip
theorem value_sign_body : Try.f48.body = some value_sign_code := by kernel_rfl
noncomputable def value_sign_G {ρ : Type} (k : Nat) : Ans UX ρ := gnil
theorem value_sign_gok {ρ : Type} (k : Nat) : GOK Try.prog (value_sign_G (ρ := ρ) k) := gok_nil
noncomputable def value_sign_cfg {ρ : Type} (k : Nat) : Cfg UX ρ where
  live i := (assoc [(0, [0, 1]), (1, [0, 1]), (2, []), (3, [0, 1]), (4, []), (5, [])] i).getD []
  boxes i := (assoc [(0, []), (1, []), (2, []), (3, []), (4, []), (5, [])] i).getD []
  tk _ := []
  n := 13
  labelR l := (assoc [] l).getD 0
  loops := assoc []
  labels := assoc []
  joins := assoc []
  xl i e := match e with
    | .nxt => assoc [] i
    | .ret => assoc [] i
    | .exit j => (assoc [] i).bind fun l => assoc l j
    | .goto j => (assoc [] i).bind fun l => assoc l j
noncomputable def value_sign_L : List Code := selI [] (loopsOf value_sign_code)
noncomputable def value_sign_J : List Code := selI [] (joinsOf value_sign_code)
noncomputable def value_sign_S : List Code := scopesOf value_sign_code
theorem value_sign_cok {ρ : Type} (k : Nat) : COK (value_sign_cfg (ρ := ρ) k) (value_sign_G k) value_sign_code :=
  cok_of (tl := []) (tj := []) (tb := []) rfl rfl rfl (nil_all (by kernel_rfl)) (nil_all (by kernel_rfl)) (fun p hp => by cases hp)
noncomputable def value_sign_enc (r : Int) : AV UU := .pv (.int .i64 r)
noncomputable def value_sign_dec (v : AV UU) (_ : List (List (AV UU))) : Option Int :=
asI .i64 v fun r0 =>
some r0
theorem value_sign_dec_enc (v : AV UU) (b : List (List (AV UU))) (r : Int) (h : value_sign_dec v b = some r) : v = value_sign_enc r := by
  unfold value_sign_dec at h
  replace h := asI_inv h; obtain ⟨r0, rfl, h⟩ := h
  cases h
  rfl
theorem value_sign_eq (k : Nat) (a0 : Int) (b1 : Int) : bodyK UX (value_sign_cfg k) (value_sign_G k) Try.f48 [.pv (.int .i64 a0), .pv (.int .i64 b1)] [] value_sign_dec = value_sign k a0 b1 := by kernel_rfl
theorem value_sign_con (k : Nat) (a0 : Int) (b1 : Int) (r : Int) (h : value_sign k a0 b1 = some r) : Con (X := UX) Try.prog 48 [.pv (.int .i64 a0), .pv (.int .i64 b1)] [] (value_sign_enc r) [] :=
  con_of_body xok tok Try.func48 value_sign_body (value_sign_gok k) rfl (value_sign_cok k) (of_decide_eq_true (by kernel_rfl)) value_sign_dec_enc ((value_sign_eq k a0 b1).trans h)
noncomputable def value_sign_an {ρ : Type} (k : Nat) : An UX ρ := fun args bx K =>
popA args fun v1 a2 =>
asI .i64 v1 fun a0 =>
popA a2 fun v3 a4 =>
asI .i64 v3 fun b1 =>
popN a4 <|
popN bx <|
(value_sign k a0 b1).bind fun r => K (value_sign_enc r) []
theorem value_sign_ok {ρ : Type} (k : Nat) : AnsOK Try.prog 48 (value_sign_an (ρ := ρ) k) := by
  intro args bx K r h
  unfold value_sign_an at h
  replace h := popA_inv h; obtain ⟨v1, a2, rfl, h⟩ := h
  replace h := asI_inv h; obtain ⟨a0, rfl, h⟩ := h
  replace h := popA_inv h; obtain ⟨v3, a4, rfl, h⟩ := h
  replace h := asI_inv h; obtain ⟨b1, rfl, h⟩ := h
  replace h := popN_inv h; obtain ⟨rfl, h⟩ := h
  replace h := popN_inv h; obtain ⟨rfl, h⟩ := h
  replace h := bind_inv h
  obtain ⟨x, hx, h⟩ := h
  exact ⟨there_of Try.func48 (by kernel_rfl) value_sign_body, _, _, h, value_sign_con k a0 b1 x hx⟩

/-! cadastre/value.text -/
noncomputable def value_text_code : Code := match Try.f49.body with | some c => c | none => .skip
theorem value_text_body : Try.f49.body = some value_text_code := by kernel_rfl
noncomputable def value_text_G {ρ : Type} (k : Nat) : Ans UX ρ := gk 48 (value_sign_an k) (gnil)
theorem value_text_gok {ρ : Type} (k : Nat) : GOK Try.prog (value_text_G (ρ := ρ) k) := gok_cons (value_sign_ok k) (gok_nil)
noncomputable def value_text_j3_s {ρ : Type} (k : Nat) : Run UX ρ := fun s K =>
popS 0 s.env fun v1 e2 =>
asS v1 fun a0 =>
popS 1 e2 fun v3 e4 =>
asS v3 fun b1 =>
popS 5 e4 fun v5 e6 =>
asI .i64 v5 fun i5 =>
popN e6 <|
popN s.hp <|
value_text_j3 k (fun a0 b1 i5 => K (.goto 0) ⟨[(0, .pv (.str a0)), (1, .pv (.str b1)), (5, .pv (.int .i64 i5))], []⟩) (fun a0 b1 i5 => K .nxt ⟨[(0, .pv (.str a0)), (1, .pv (.str b1)), (5, .pv (.int .i64 i5))], []⟩) a0 b1 i5
noncomputable def value_text_l2_s {ρ : Type} (k : Nat) : Run UX ρ := fun s K =>
popS 0 s.env fun v1 e2 =>
asS v1 fun a0 =>
popS 1 e2 fun v3 e4 =>
asS v3 fun b1 =>
popS 5 e4 fun v5 e6 =>
asI .i64 v5 fun i5 =>
popN e6 <|
popN s.hp <|
value_text_l2 k (fun a0 b1 i5 => K (.goto 0) ⟨[(0, .pv (.str a0)), (1, .pv (.str b1)), (5, .pv (.int .i64 i5))], []⟩) (fun a0 b1 => K (.exit 0) ⟨[(0, .pv (.str a0)), (1, .pv (.str b1))], []⟩) k a0 b1 i5
noncomputable def value_text_cfg {ρ : Type} (k : Nat) : Cfg UX ρ where
  live i := (assoc [(0, [0, 1]), (1, [0, 1]), (2, [0, 1, 5]), (3, [0, 1, 5]), (4, [0, 1, 5]), (5, [0, 1]), (6, [0, 1, 5])] i).getD []
  boxes i := (assoc [(0, []), (1, []), (2, []), (3, []), (4, []), (5, []), (6, [])] i).getD []
  tk _ := []
  n := 39
  labelR l := (assoc [] l).getD 0
  loops := assoc [(2, value_text_l2_s k)]
  labels := assoc []
  joins := assoc [(3, value_text_j3_s k)]
  xl i e := match e with
    | .nxt => assoc [(3, ([0, 1, 5], []))] i
    | .ret => assoc [] i
    | .exit j => (assoc [(2, [(0, ([0, 1], []))])] i).bind fun l => assoc l j
    | .goto j => (assoc [(3, [(0, ([0, 1, 5], []))]), (2, [(0, ([0, 1, 5], []))])] i).bind fun l => assoc l j
noncomputable def value_text_L : List Code := selI [2] (loopsOf value_text_code)
noncomputable def value_text_J : List Code := selI [3] (joinsOf value_text_code)
noncomputable def value_text_S : List Code := scopesOf value_text_code
theorem value_text_l2_eq0 {ρ : Type} (k : Nat) (K : Ex → St UU → Option ρ) : ∀ (n : Nat) (v : ByteArray × ByteArray × Int), iterK UX (fun s => s.at (value_text_cfg (ρ := ρ) k).live (value_text_cfg (ρ := ρ) k).boxes (some 2)) (exec UX (value_text_cfg k) (value_text_G k) (value_text_L.getD 0 .skip)) n ⟨[(0, .pv (.str v.1)), (1, .pv (.str v.2.1)), (5, .pv (.int .i64 v.2.2))], []⟩ (nrmK UX (value_text_cfg k) 2 K) = value_text_l2 k (fun a0 b1 i5 => K (.goto 0) ⟨[(0, .pv (.str a0)), (1, .pv (.str b1)), (5, .pv (.int .i64 i5))], []⟩) (fun a0 b1 => K (.exit 0) ⟨[(0, .pv (.str a0)), (1, .pv (.str b1))], []⟩) n v.1 v.2.1 v.2.2 :=
  iter_rec (X := UX) (fun v => ⟨[(0, .pv (.str v.1)), (1, .pv (.str v.2.1)), (5, .pv (.int .i64 v.2.2))], []⟩) (fun rec v => value_text_l2_b k (fun a0 b1 i5 => K (.goto 0) ⟨[(0, .pv (.str a0)), (1, .pv (.str b1)), (5, .pv (.int .i64 i5))], []⟩) (fun a0 b1 => K (.exit 0) ⟨[(0, .pv (.str a0)), (1, .pv (.str b1))], []⟩) (fun a0 b1 i5 => rec (a0, b1, i5)) v.1 v.2.1 v.2.2) (fun n v => value_text_l2 k (fun a0 b1 i5 => K (.goto 0) ⟨[(0, .pv (.str a0)), (1, .pv (.str b1)), (5, .pv (.int .i64 i5))], []⟩) (fun a0 b1 => K (.exit 0) ⟨[(0, .pv (.str a0)), (1, .pv (.str b1))], []⟩) n v.1 v.2.1 v.2.2) (fun n v => by kernel_rfl) (fun _ => rfl) (fun _ _ => rfl)
theorem value_text_l2_ok0 {ρ : Type} (k : Nat) : IterOK UX (value_text_cfg (ρ := ρ) k) (value_text_G k) (value_text_L.getD 0 .skip) 2 (value_text_l2_s k) := by
  intro s K r h
  obtain ⟨env, hp⟩ := s
  unfold value_text_l2_s at h
  replace h := popS_inv h; obtain ⟨v1, e2, rfl, h⟩ := h
  replace h := asS_inv h; obtain ⟨a0, rfl, h⟩ := h
  replace h := popS_inv h; obtain ⟨v3, e4, rfl, h⟩ := h
  replace h := asS_inv h; obtain ⟨b1, rfl, h⟩ := h
  replace h := popS_inv h; obtain ⟨v5, e6, rfl, h⟩ := h
  replace h := asI_inv h; obtain ⟨i5, rfl, h⟩ := h
  replace h := popN_inv h; obtain ⟨rfl, h⟩ := h
  replace h := popN_inv h; obtain ⟨rfl, h⟩ := h
  exact ⟨k, (value_text_l2_eq0 k K k (a0, b1, i5)).trans h⟩
theorem value_text_j3_eq0 {ρ : Type} (k : Nat) (K : Ex → St UU → Option ρ) (a0 : ByteArray) (b1 : ByteArray) (i5 : Int) : exec UX (value_text_cfg k) (value_text_G k) (value_text_J.getD 0 .skip) ⟨[(0, .pv (.str a0)), (1, .pv (.str b1)), (5, .pv (.int .i64 i5))], []⟩ (nrmK UX (value_text_cfg k) 3 K) = value_text_j3 k (fun a0 b1 i5 => K (.goto 0) ⟨[(0, .pv (.str a0)), (1, .pv (.str b1)), (5, .pv (.int .i64 i5))], []⟩) (fun a0 b1 i5 => K .nxt ⟨[(0, .pv (.str a0)), (1, .pv (.str b1)), (5, .pv (.int .i64 i5))], []⟩) a0 b1 i5 := by kernel_rfl
theorem value_text_j3_ok0 {ρ : Type} (k : Nat) : JoinOK UX (value_text_cfg (ρ := ρ) k) (value_text_G k) (value_text_J.getD 0 .skip) 3 (value_text_j3_s k) := by
  intro s K r h
  obtain ⟨env, hp⟩ := s
  unfold value_text_j3_s at h
  replace h := popS_inv h; obtain ⟨v1, e2, rfl, h⟩ := h
  replace h := asS_inv h; obtain ⟨a0, rfl, h⟩ := h
  replace h := popS_inv h; obtain ⟨v3, e4, rfl, h⟩ := h
  replace h := asS_inv h; obtain ⟨b1, rfl, h⟩ := h
  replace h := popS_inv h; obtain ⟨v5, e6, rfl, h⟩ := h
  replace h := asI_inv h; obtain ⟨i5, rfl, h⟩ := h
  replace h := popN_inv h; obtain ⟨rfl, h⟩ := h
  replace h := popN_inv h; obtain ⟨rfl, h⟩ := h
  exact (value_text_j3_eq0 k K a0 b1 i5).trans h
theorem value_text_cok {ρ : Type} (k : Nat) : COK (value_text_cfg (ρ := ρ) k) (value_text_G k) value_text_code :=
  cok_of (tl := [(2, value_text_l2_s k)]) (tj := [(3, value_text_j3_s k)]) (tb := []) rfl rfl rfl (all_nth 1 (by kernel_rfl) ⟨iter_case (by kernel_rfl) rfl (value_text_l2_ok0 k), trivial⟩) (all_nth 1 (by kernel_rfl) ⟨join_case (by kernel_rfl) rfl (value_text_j3_ok0 k), trivial⟩) (fun p hp => by cases hp)
noncomputable def value_text_enc (r : Int) : AV UU := .pv (.int .i64 r)
noncomputable def value_text_dec (v : AV UU) (_ : List (List (AV UU))) : Option Int :=
asI .i64 v fun r0 =>
some r0
theorem value_text_dec_enc (v : AV UU) (b : List (List (AV UU))) (r : Int) (h : value_text_dec v b = some r) : v = value_text_enc r := by
  unfold value_text_dec at h
  replace h := asI_inv h; obtain ⟨r0, rfl, h⟩ := h
  cases h
  rfl
theorem value_text_eq (k : Nat) (a0 : ByteArray) (b1 : ByteArray) : bodyK UX (value_text_cfg k) (value_text_G k) Try.f49 [.pv (.str a0), .pv (.str b1)] [] value_text_dec = value_text k a0 b1 := by kernel_rfl
theorem value_text_con (k : Nat) (a0 : ByteArray) (b1 : ByteArray) (r : Int) (h : value_text k a0 b1 = some r) : Con (X := UX) Try.prog 49 [.pv (.str a0), .pv (.str b1)] [] (value_text_enc r) [] :=
  con_of_body xok tok Try.func49 value_text_body (value_text_gok k) rfl (value_text_cok k) (of_decide_eq_true (by kernel_rfl)) value_text_dec_enc ((value_text_eq k a0 b1).trans h)
noncomputable def value_text_an {ρ : Type} (k : Nat) : An UX ρ := fun args bx K =>
popA args fun v1 a2 =>
asS v1 fun a0 =>
popA a2 fun v3 a4 =>
asS v3 fun b1 =>
popN a4 <|
popN bx <|
(value_text k a0 b1).bind fun r => K (value_text_enc r) []
theorem value_text_ok {ρ : Type} (k : Nat) : AnsOK Try.prog 49 (value_text_an (ρ := ρ) k) := by
  intro args bx K r h
  unfold value_text_an at h
  replace h := popA_inv h; obtain ⟨v1, a2, rfl, h⟩ := h
  replace h := asS_inv h; obtain ⟨a0, rfl, h⟩ := h
  replace h := popA_inv h; obtain ⟨v3, a4, rfl, h⟩ := h
  replace h := asS_inv h; obtain ⟨b1, rfl, h⟩ := h
  replace h := popN_inv h; obtain ⟨rfl, h⟩ := h
  replace h := popN_inv h; obtain ⟨rfl, h⟩ := h
  replace h := bind_inv h
  obtain ⟨x, hx, h⟩ := h
  exact ⟨there_of Try.func49 (by kernel_rfl) value_text_body, _, _, h, value_text_con k a0 b1 x hx⟩

/-! cadastre/value.Order -/
noncomputable def value_Order_code : Code := match Try.f42.body with | some c => c | none => .skip
theorem value_Order_body : Try.f42.body = some value_Order_code := by kernel_rfl
noncomputable def value_Order_G {ρ : Type} (k : Nat) : Ans UX ρ := gk 48 (value_sign_an k) (gk 49 (value_text_an k) (gnil))
theorem value_Order_gok {ρ : Type} (k : Nat) : GOK Try.prog (value_Order_G (ρ := ρ) k) := gok_cons (value_sign_ok k) (gok_cons (value_text_ok k) (gok_nil))
noncomputable def value_Order_cfg {ρ : Type} (k : Nat) : Cfg UX ρ where
  live i := (assoc [(0, [0, 1]), (1, [2, 3]), (2, [2, 3]), (3, [2, 3]), (4, [2, 3]), (5, [2, 3])] i).getD []
  boxes i := (assoc [(0, []), (1, [2, 3]), (2, [2, 3]), (3, [2, 3]), (4, [2, 3]), (5, [2, 3])] i).getD []
  tk _ := []
  n := 30
  labelR l := (assoc [] l).getD 0
  loops := assoc []
  labels := assoc []
  joins := assoc []
  xl i e := match e with
    | .nxt => assoc [] i
    | .ret => assoc [] i
    | .exit j => (assoc [] i).bind fun l => assoc l j
    | .goto j => (assoc [] i).bind fun l => assoc l j
noncomputable def value_Order_L : List Code := selI [] (loopsOf value_Order_code)
noncomputable def value_Order_J : List Code := selI [] (joinsOf value_Order_code)
noncomputable def value_Order_S : List Code := scopesOf value_Order_code
theorem value_Order_cok {ρ : Type} (k : Nat) : COK (value_Order_cfg (ρ := ρ) k) (value_Order_G k) value_Order_code :=
  cok_of (tl := []) (tj := []) (tb := []) rfl rfl rfl (nil_all (by kernel_rfl)) (nil_all (by kernel_rfl)) (fun p hp => by cases hp)
noncomputable def value_Order_enc (r : Int) : AV UU := .pv (.int .i64 r)
noncomputable def value_Order_dec (v : AV UU) (_ : List (List (AV UU))) : Option Int :=
asI .i64 v fun r0 =>
some r0
theorem value_Order_dec_enc (v : AV UU) (b : List (List (AV UU))) (r : Int) (h : value_Order_dec v b = some r) : v = value_Order_enc r := by
  unfold value_Order_dec at h
  replace h := asI_inv h; obtain ⟨r0, rfl, h⟩ := h
  cases h
  rfl
theorem value_Order_eq (k : Nat) (a0 : S23) (b1 : S23) : bodyK UX (value_Order_cfg k) (value_Order_G k) Try.f42 [.pv (.typ (.s23 a0)), .pv (.typ (.s23 b1))] [] value_Order_dec = value_Order k a0 b1 := by kernel_rfl
theorem value_Order_con (k : Nat) (a0 : S23) (b1 : S23) (r : Int) (h : value_Order k a0 b1 = some r) : Con (X := UX) Try.prog 42 [.pv (.typ (.s23 a0)), .pv (.typ (.s23 b1))] [] (value_Order_enc r) [] :=
  con_of_body xok tok Try.func42 value_Order_body (value_Order_gok k) rfl (value_Order_cok k) (of_decide_eq_true (by kernel_rfl)) value_Order_dec_enc ((value_Order_eq k a0 b1).trans h)
noncomputable def value_Order_an {ρ : Type} (k : Nat) : An UX ρ := fun args bx K =>
popA args fun v1 a2 =>
as_s23 v1 fun a0 =>
popA a2 fun v3 a4 =>
as_s23 v3 fun b1 =>
popN a4 <|
popN bx <|
(value_Order k a0 b1).bind fun r => K (value_Order_enc r) []
theorem value_Order_ok {ρ : Type} (k : Nat) : AnsOK Try.prog 42 (value_Order_an (ρ := ρ) k) := by
  intro args bx K r h
  unfold value_Order_an at h
  replace h := popA_inv h; obtain ⟨v1, a2, rfl, h⟩ := h
  replace h := as_s23_inv h; obtain ⟨a0, rfl, h⟩ := h
  replace h := popA_inv h; obtain ⟨v3, a4, rfl, h⟩ := h
  replace h := as_s23_inv h; obtain ⟨b1, rfl, h⟩ := h
  replace h := popN_inv h; obtain ⟨rfl, h⟩ := h
  replace h := popN_inv h; obtain ⟨rfl, h⟩ := h
  replace h := bind_inv h
  obtain ⟨x, hx, h⟩ := h
  exact ⟨there_of Try.func42 (by kernel_rfl) value_Order_body, _, _, h, value_Order_con k a0 b1 x hx⟩

/-! cadastre/logic.Test -/
noncomputable def logic_Test_code : Code := match Try.f20.body with | some c => c | none => .skip
theorem logic_Test_body : Try.f20.body = some logic_Test_code := by kernel_rfl
noncomputable def logic_Test_G {ρ : Type} (k : Nat) : Ans UX ρ := gk 31 (value_All_an k) (gk 42 (value_Order_an k) (gk 41 (logic_said_an k) (gnil)))
theorem logic_Test_gok {ρ : Type} (k : Nat) : GOK Try.prog (logic_Test_G (ρ := ρ) k) := gok_cons (value_All_ok k) (gok_cons (value_Order_ok k) (gok_cons (logic_said_ok k) (gok_nil)))
noncomputable def logic_Test_j5_s {ρ : Type} (k : Nat) : Run UX ρ := fun s K =>
popS 0 s.env fun v1 e2 =>
asI .i64 v1 fun op0 =>
popS 4 e2 fun v3 e4 =>
asP 4 0 v3 <|
popS 5 e4 fun v5 e6 =>
asP 5 0 v5 <|
popS 6 e6 fun v7 e8 =>
asP 6 0 v7 <|
popN e8 <|
popB 4 s.hp fun c9 e10 =>
popA c9 fun v11 c12 =>
asI .i64 v11 fun z13 =>
popA c12 fun v14 c15 =>
asI .i64 v14 fun z16 =>
popA c15 fun v17 c18 =>
asS v17 fun z19 =>
popN c18 <|
popB 5 e10 fun c20 e21 =>
popA c20 fun v22 c23 =>
asI .i64 v22 fun z24 =>
popA c23 fun v25 c26 =>
asI .i64 v25 fun z27 =>
popA c26 fun v28 c29 =>
asS v28 fun z30 =>
popN c29 <|
popB 6 e21 fun c31 e32 =>
popA c31 fun v33 c34 =>
asI .i64 v33 fun z35 =>
popA c34 fun v36 c37 =>
asI .i64 v36 fun z38 =>
popA c37 fun v39 c40 =>
asS v39 fun z41 =>
popN c40 <|
popN e32 <|
logic_Test_j5 k (fun t7 t6 => K .ret ⟨[(6, .ptr 6 0), (7, .pv (.int .i64 t7))], [(6, [.pv (.int .i64 t6.f0), .pv (.int .i64 t6.f1), .pv (.str t6.f2)])]⟩) op0 (⟨z13, z16, z19⟩ : S23) (⟨z24, z27, z30⟩ : S23) (⟨z35, z38, z41⟩ : S23)
noncomputable def logic_Test_j3_s {ρ : Type} (k : Nat) : Run UX ρ := fun s K =>
popS 0 s.env fun v1 e2 =>
asI .i64 v1 fun op0 =>
popS 4 e2 fun v3 e4 =>
asP 4 0 v3 <|
popS 5 e4 fun v5 e6 =>
asP 5 0 v5 <|
popS 6 e6 fun v7 e8 =>
asP 6 0 v7 <|
popN e8 <|
popB 4 s.hp fun c9 e10 =>
popA c9 fun v11 c12 =>
asI .i64 v11 fun z13 =>
popA c12 fun v14 c15 =>
asI .i64 v14 fun z16 =>
popA c15 fun v17 c18 =>
asS v17 fun z19 =>
popN c18 <|
popB 5 e10 fun c20 e21 =>
popA c20 fun v22 c23 =>
asI .i64 v22 fun z24 =>
popA c23 fun v25 c26 =>
asI .i64 v25 fun z27 =>
popA c26 fun v28 c29 =>
asS v28 fun z30 =>
popN c29 <|
popB 6 e21 fun c31 e32 =>
popA c31 fun v33 c34 =>
asI .i64 v33 fun z35 =>
popA c34 fun v36 c37 =>
asI .i64 v36 fun z38 =>
popA c37 fun v39 c40 =>
asS v39 fun z41 =>
popN c40 <|
popN e32 <|
logic_Test_j3 k (fun t7 t6 => K .ret ⟨[(6, .ptr 6 0), (7, .pv (.int .i64 t7))], [(6, [.pv (.int .i64 t6.f0), .pv (.int .i64 t6.f1), .pv (.str t6.f2)])]⟩) op0 (⟨z13, z16, z19⟩ : S23) (⟨z24, z27, z30⟩ : S23) (⟨z35, z38, z41⟩ : S23)
noncomputable def logic_Test_cfg {ρ : Type} (k : Nat) : Cfg UX ρ where
  live i := (assoc [(0, [0, 1, 2]), (1, [0, 4, 5, 6]), (2, [6]), (3, [0, 4, 5, 6]), (4, [6]), (5, [0, 4, 5, 6]), (6, [0, 6, 8]), (7, [6, 8, 35]), (8, [6, 8]), (9, [6, 8, 35]), (10, [6, 8]), (11, [6, 8, 35]), (12, [6, 8]), (13, [6, 8, 35]), (14, [6, 8]), (15, [6, 8, 35]), (16, [6, 8]), (17, [6, 8])] i).getD []
  boxes i := (assoc [(0, []), (1, [4, 5, 6]), (2, [6]), (3, [4, 5, 6]), (4, [6]), (5, [4, 5, 6]), (6, [6]), (7, [6]), (8, [6]), (9, [6]), (10, [6]), (11, [6]), (12, [6]), (13, [6]), (14, [6]), (15, [6]), (16, [6]), (17, [6])] i).getD []
  tk _ := []
  n := 64
  labelR l := (assoc [] l).getD 0
  loops := assoc []
  labels := assoc []
  joins := assoc [(5, logic_Test_j5_s k), (3, logic_Test_j3_s k)]
  xl i e := match e with
    | .nxt => assoc [] i
    | .ret => assoc [(5, ([6, 7], [6])), (3, ([6, 7], [6]))] i
    | .exit j => (assoc [] i).bind fun l => assoc l j
    | .goto j => (assoc [] i).bind fun l => assoc l j
noncomputable def logic_Test_L : List Code := selI [] (loopsOf logic_Test_code)
noncomputable def logic_Test_J : List Code := selI [5, 3] (joinsOf logic_Test_code)
noncomputable def logic_Test_S : List Code := scopesOf logic_Test_code
theorem logic_Test_j3_eq0 {ρ : Type} (k : Nat) (K : Ex → St UU → Option ρ) (op0 : Int) (a4 : S23) (b5 : S23) (t6 : S23) : exec UX (logic_Test_cfg k) (logic_Test_G k) (logic_Test_J.getD 0 .skip) ⟨[(0, .pv (.int .i64 op0)), (4, .ptr 4 0), (5, .ptr 5 0), (6, .ptr 6 0)], [(4, [.pv (.int .i64 a4.f0), .pv (.int .i64 a4.f1), .pv (.str a4.f2)]), (5, [.pv (.int .i64 b5.f0), .pv (.int .i64 b5.f1), .pv (.str b5.f2)]), (6, [.pv (.int .i64 t6.f0), .pv (.int .i64 t6.f1), .pv (.str t6.f2)])]⟩ (nrmK UX (logic_Test_cfg k) 3 K) = logic_Test_j3 k (fun t7 t6 => K .ret ⟨[(6, .ptr 6 0), (7, .pv (.int .i64 t7))], [(6, [.pv (.int .i64 t6.f0), .pv (.int .i64 t6.f1), .pv (.str t6.f2)])]⟩) op0 a4 b5 t6 := by kernel_rfl
theorem logic_Test_j3_ok0 {ρ : Type} (k : Nat) : JoinOK UX (logic_Test_cfg (ρ := ρ) k) (logic_Test_G k) (logic_Test_J.getD 0 .skip) 3 (logic_Test_j3_s k) := by
  intro s K r h
  obtain ⟨env, hp⟩ := s
  unfold logic_Test_j3_s at h
  replace h := popS_inv h; obtain ⟨v1, e2, rfl, h⟩ := h
  replace h := asI_inv h; obtain ⟨op0, rfl, h⟩ := h
  replace h := popS_inv h; obtain ⟨v3, e4, rfl, h⟩ := h
  replace h := asP_inv h; obtain ⟨rfl, h⟩ := h
  replace h := popS_inv h; obtain ⟨v5, e6, rfl, h⟩ := h
  replace h := asP_inv h; obtain ⟨rfl, h⟩ := h
  replace h := popS_inv h; obtain ⟨v7, e8, rfl, h⟩ := h
  replace h := asP_inv h; obtain ⟨rfl, h⟩ := h
  replace h := popN_inv h; obtain ⟨rfl, h⟩ := h
  replace h := popB_inv h; obtain ⟨c9, e10, rfl, h⟩ := h
  replace h := popA_inv h; obtain ⟨v11, c12, rfl, h⟩ := h
  replace h := asI_inv h; obtain ⟨z13, rfl, h⟩ := h
  replace h := popA_inv h; obtain ⟨v14, c15, rfl, h⟩ := h
  replace h := asI_inv h; obtain ⟨z16, rfl, h⟩ := h
  replace h := popA_inv h; obtain ⟨v17, c18, rfl, h⟩ := h
  replace h := asS_inv h; obtain ⟨z19, rfl, h⟩ := h
  replace h := popN_inv h; obtain ⟨rfl, h⟩ := h
  replace h := popB_inv h; obtain ⟨c20, e21, rfl, h⟩ := h
  replace h := popA_inv h; obtain ⟨v22, c23, rfl, h⟩ := h
  replace h := asI_inv h; obtain ⟨z24, rfl, h⟩ := h
  replace h := popA_inv h; obtain ⟨v25, c26, rfl, h⟩ := h
  replace h := asI_inv h; obtain ⟨z27, rfl, h⟩ := h
  replace h := popA_inv h; obtain ⟨v28, c29, rfl, h⟩ := h
  replace h := asS_inv h; obtain ⟨z30, rfl, h⟩ := h
  replace h := popN_inv h; obtain ⟨rfl, h⟩ := h
  replace h := popB_inv h; obtain ⟨c31, e32, rfl, h⟩ := h
  replace h := popA_inv h; obtain ⟨v33, c34, rfl, h⟩ := h
  replace h := asI_inv h; obtain ⟨z35, rfl, h⟩ := h
  replace h := popA_inv h; obtain ⟨v36, c37, rfl, h⟩ := h
  replace h := asI_inv h; obtain ⟨z38, rfl, h⟩ := h
  replace h := popA_inv h; obtain ⟨v39, c40, rfl, h⟩ := h
  replace h := asS_inv h; obtain ⟨z41, rfl, h⟩ := h
  replace h := popN_inv h; obtain ⟨rfl, h⟩ := h
  replace h := popN_inv h; obtain ⟨rfl, h⟩ := h
  exact (logic_Test_j3_eq0 k K op0 (⟨z13, z16, z19⟩ : S23) (⟨z24, z27, z30⟩ : S23) (⟨z35, z38, z41⟩ : S23)).trans h
theorem logic_Test_j5_eq1 {ρ : Type} (k : Nat) (K : Ex → St UU → Option ρ) (op0 : Int) (a4 : S23) (b5 : S23) (t6 : S23) : exec UX (logic_Test_cfg k) (logic_Test_G k) (logic_Test_J.getD 1 .skip) ⟨[(0, .pv (.int .i64 op0)), (4, .ptr 4 0), (5, .ptr 5 0), (6, .ptr 6 0)], [(4, [.pv (.int .i64 a4.f0), .pv (.int .i64 a4.f1), .pv (.str a4.f2)]), (5, [.pv (.int .i64 b5.f0), .pv (.int .i64 b5.f1), .pv (.str b5.f2)]), (6, [.pv (.int .i64 t6.f0), .pv (.int .i64 t6.f1), .pv (.str t6.f2)])]⟩ (nrmK UX (logic_Test_cfg k) 5 K) = logic_Test_j5 k (fun t7 t6 => K .ret ⟨[(6, .ptr 6 0), (7, .pv (.int .i64 t7))], [(6, [.pv (.int .i64 t6.f0), .pv (.int .i64 t6.f1), .pv (.str t6.f2)])]⟩) op0 a4 b5 t6 := by kernel_rfl
theorem logic_Test_j5_ok1 {ρ : Type} (k : Nat) : JoinOK UX (logic_Test_cfg (ρ := ρ) k) (logic_Test_G k) (logic_Test_J.getD 1 .skip) 5 (logic_Test_j5_s k) := by
  intro s K r h
  obtain ⟨env, hp⟩ := s
  unfold logic_Test_j5_s at h
  replace h := popS_inv h; obtain ⟨v1, e2, rfl, h⟩ := h
  replace h := asI_inv h; obtain ⟨op0, rfl, h⟩ := h
  replace h := popS_inv h; obtain ⟨v3, e4, rfl, h⟩ := h
  replace h := asP_inv h; obtain ⟨rfl, h⟩ := h
  replace h := popS_inv h; obtain ⟨v5, e6, rfl, h⟩ := h
  replace h := asP_inv h; obtain ⟨rfl, h⟩ := h
  replace h := popS_inv h; obtain ⟨v7, e8, rfl, h⟩ := h
  replace h := asP_inv h; obtain ⟨rfl, h⟩ := h
  replace h := popN_inv h; obtain ⟨rfl, h⟩ := h
  replace h := popB_inv h; obtain ⟨c9, e10, rfl, h⟩ := h
  replace h := popA_inv h; obtain ⟨v11, c12, rfl, h⟩ := h
  replace h := asI_inv h; obtain ⟨z13, rfl, h⟩ := h
  replace h := popA_inv h; obtain ⟨v14, c15, rfl, h⟩ := h
  replace h := asI_inv h; obtain ⟨z16, rfl, h⟩ := h
  replace h := popA_inv h; obtain ⟨v17, c18, rfl, h⟩ := h
  replace h := asS_inv h; obtain ⟨z19, rfl, h⟩ := h
  replace h := popN_inv h; obtain ⟨rfl, h⟩ := h
  replace h := popB_inv h; obtain ⟨c20, e21, rfl, h⟩ := h
  replace h := popA_inv h; obtain ⟨v22, c23, rfl, h⟩ := h
  replace h := asI_inv h; obtain ⟨z24, rfl, h⟩ := h
  replace h := popA_inv h; obtain ⟨v25, c26, rfl, h⟩ := h
  replace h := asI_inv h; obtain ⟨z27, rfl, h⟩ := h
  replace h := popA_inv h; obtain ⟨v28, c29, rfl, h⟩ := h
  replace h := asS_inv h; obtain ⟨z30, rfl, h⟩ := h
  replace h := popN_inv h; obtain ⟨rfl, h⟩ := h
  replace h := popB_inv h; obtain ⟨c31, e32, rfl, h⟩ := h
  replace h := popA_inv h; obtain ⟨v33, c34, rfl, h⟩ := h
  replace h := asI_inv h; obtain ⟨z35, rfl, h⟩ := h
  replace h := popA_inv h; obtain ⟨v36, c37, rfl, h⟩ := h
  replace h := asI_inv h; obtain ⟨z38, rfl, h⟩ := h
  replace h := popA_inv h; obtain ⟨v39, c40, rfl, h⟩ := h
  replace h := asS_inv h; obtain ⟨z41, rfl, h⟩ := h
  replace h := popN_inv h; obtain ⟨rfl, h⟩ := h
  replace h := popN_inv h; obtain ⟨rfl, h⟩ := h
  exact (logic_Test_j5_eq1 k K op0 (⟨z13, z16, z19⟩ : S23) (⟨z24, z27, z30⟩ : S23) (⟨z35, z38, z41⟩ : S23)).trans h
theorem logic_Test_cok {ρ : Type} (k : Nat) : COK (logic_Test_cfg (ρ := ρ) k) (logic_Test_G k) logic_Test_code :=
  cok_of (tl := []) (tj := [(5, logic_Test_j5_s k), (3, logic_Test_j3_s k)]) (tb := []) rfl rfl rfl (nil_all (by kernel_rfl)) (all_nth 2 (by kernel_rfl) ⟨join_case (by kernel_rfl) rfl (logic_Test_j5_ok1 k), join_case (by kernel_rfl) rfl (logic_Test_j3_ok0 k), trivial⟩) (fun p hp => by cases hp)
noncomputable def logic_Test_enc (r : S23 × Int) : AV UU := .pv (.tup [.typ (.s23 r.1), .int .i64 r.2])
noncomputable def logic_Test_dec (v : AV UU) (_ : List (List (AV UU))) : Option (S23 × Int) :=
asT v fun q1 =>
popA q1 fun p2 q3 =>
as_s23 (.pv p2) fun r0 =>
popA q3 fun p4 q5 =>
asI .i64 (.pv p4) fun r1 =>
popN q5 <|
some (r0, r1)
theorem logic_Test_dec_enc (v : AV UU) (b : List (List (AV UU))) (r : S23 × Int) (h : logic_Test_dec v b = some r) : v = logic_Test_enc r := by
  unfold logic_Test_dec at h
  replace h := asT_inv h; obtain ⟨q1, rfl, h⟩ := h
  replace h := popA_inv h; obtain ⟨p2, q3, rfl, h⟩ := h
  replace h := as_s23_inv h; obtain ⟨r0, e, h⟩ := h; cases e
  replace h := popA_inv h; obtain ⟨p4, q5, rfl, h⟩ := h
  replace h := asI_inv h; obtain ⟨r1, e, h⟩ := h; cases e
  replace h := popN_inv h; obtain ⟨rfl, h⟩ := h
  cases h
  rfl
theorem logic_Test_eq (k : Nat) (op0 : Int) (a1 : S23) (b2 : S23) : bodyK UX (logic_Test_cfg k) (logic_Test_G k) Try.f20 [.pv (.int .i64 op0), .pv (.typ (.s23 a1)), .pv (.typ (.s23 b2))] [] logic_Test_dec = logic_Test k op0 a1 b2 := by kernel_rfl
theorem logic_Test_con (k : Nat) (op0 : Int) (a1 : S23) (b2 : S23) (r : S23 × Int) (h : logic_Test k op0 a1 b2 = some r) : Con (X := UX) Try.prog 20 [.pv (.int .i64 op0), .pv (.typ (.s23 a1)), .pv (.typ (.s23 b2))] [] (logic_Test_enc r) [] :=
  con_of_body xok tok Try.func20 logic_Test_body (logic_Test_gok k) rfl (logic_Test_cok k) (of_decide_eq_true (by kernel_rfl)) logic_Test_dec_enc ((logic_Test_eq k op0 a1 b2).trans h)
noncomputable def logic_Test_an {ρ : Type} (k : Nat) : An UX ρ := fun args bx K =>
popA args fun v1 a2 =>
asI .i64 v1 fun op0 =>
popA a2 fun v3 a4 =>
as_s23 v3 fun a1 =>
popA a4 fun v5 a6 =>
as_s23 v5 fun b2 =>
popN a6 <|
popN bx <|
(logic_Test k op0 a1 b2).bind fun r => K (logic_Test_enc r) []
theorem logic_Test_ok {ρ : Type} (k : Nat) : AnsOK Try.prog 20 (logic_Test_an (ρ := ρ) k) := by
  intro args bx K r h
  unfold logic_Test_an at h
  replace h := popA_inv h; obtain ⟨v1, a2, rfl, h⟩ := h
  replace h := asI_inv h; obtain ⟨op0, rfl, h⟩ := h
  replace h := popA_inv h; obtain ⟨v3, a4, rfl, h⟩ := h
  replace h := as_s23_inv h; obtain ⟨a1, rfl, h⟩ := h
  replace h := popA_inv h; obtain ⟨v5, a6, rfl, h⟩ := h
  replace h := as_s23_inv h; obtain ⟨b2, rfl, h⟩ := h
  replace h := popN_inv h; obtain ⟨rfl, h⟩ := h
  replace h := popN_inv h; obtain ⟨rfl, h⟩ := h
  replace h := bind_inv h
  obtain ⟨x, hx, h⟩ := h
  exact ⟨there_of Try.func20 (by kernel_rfl) logic_Test_body, _, _, h, logic_Test_con k op0 a1 b2 x hx⟩

/-! cadastre/logic.truth -/
noncomputable def logic_truth_code : Code := match Try.f43.body with | some c => c | none => .skip
theorem logic_truth_body : Try.f43.body = some logic_truth_code := by kernel_rfl
noncomputable def logic_truth_G {ρ : Type} (k : Nat) : Ans UX ρ := gk 40 (value_Good_an k) (gnil)
theorem logic_truth_gok {ρ : Type} (k : Nat) : GOK Try.prog (logic_truth_G (ρ := ρ) k) := gok_cons (value_Good_ok k) (gok_nil)
noncomputable def logic_truth_cfg {ρ : Type} (k : Nat) : Cfg UX ρ where
  live i := (assoc [(0, [0]), (1, [1]), (2, []), (3, [1]), (4, []), (5, [1]), (6, []), (7, [1]), (8, []), (9, [])] i).getD []
  boxes i := (assoc [(0, []), (1, [1]), (2, []), (3, [1]), (4, []), (5, [1]), (6, []), (7, [1]), (8, []), (9, [])] i).getD []
  tk _ := []
  n := 20
  labelR l := (assoc [] l).getD 0
  loops := assoc []
  labels := assoc []
  joins := assoc []
  xl i e := match e with
    | .nxt => assoc [] i
    | .ret => assoc [] i
    | .exit j => (assoc [] i).bind fun l => assoc l j
    | .goto j => (assoc [] i).bind fun l => assoc l j
noncomputable def logic_truth_L : List Code := selI [] (loopsOf logic_truth_code)
noncomputable def logic_truth_J : List Code := selI [] (joinsOf logic_truth_code)
noncomputable def logic_truth_S : List Code := scopesOf logic_truth_code
theorem logic_truth_cok {ρ : Type} (k : Nat) : COK (logic_truth_cfg (ρ := ρ) k) (logic_truth_G k) logic_truth_code :=
  cok_of (tl := []) (tj := []) (tb := []) rfl rfl rfl (nil_all (by kernel_rfl)) (nil_all (by kernel_rfl)) (fun p hp => by cases hp)
noncomputable def logic_truth_enc (r : Int × Int) : AV UU := .pv (.tup [.int .i64 r.1, .int .i64 r.2])
noncomputable def logic_truth_dec (v : AV UU) (_ : List (List (AV UU))) : Option (Int × Int) :=
asT v fun q1 =>
popA q1 fun p2 q3 =>
asI .i64 (.pv p2) fun r0 =>
popA q3 fun p4 q5 =>
asI .i64 (.pv p4) fun r1 =>
popN q5 <|
some (r0, r1)
theorem logic_truth_dec_enc (v : AV UU) (b : List (List (AV UU))) (r : Int × Int) (h : logic_truth_dec v b = some r) : v = logic_truth_enc r := by
  unfold logic_truth_dec at h
  replace h := asT_inv h; obtain ⟨q1, rfl, h⟩ := h
  replace h := popA_inv h; obtain ⟨p2, q3, rfl, h⟩ := h
  replace h := asI_inv h; obtain ⟨r0, e, h⟩ := h; cases e
  replace h := popA_inv h; obtain ⟨p4, q5, rfl, h⟩ := h
  replace h := asI_inv h; obtain ⟨r1, e, h⟩ := h; cases e
  replace h := popN_inv h; obtain ⟨rfl, h⟩ := h
  cases h
  rfl
theorem logic_truth_eq (k : Nat) (v0 : S23) : bodyK UX (logic_truth_cfg k) (logic_truth_G k) Try.f43 [.pv (.typ (.s23 v0))] [] logic_truth_dec = logic_truth k v0 := by kernel_rfl
theorem logic_truth_con (k : Nat) (v0 : S23) (r : Int × Int) (h : logic_truth k v0 = some r) : Con (X := UX) Try.prog 43 [.pv (.typ (.s23 v0))] [] (logic_truth_enc r) [] :=
  con_of_body xok tok Try.func43 logic_truth_body (logic_truth_gok k) rfl (logic_truth_cok k) (of_decide_eq_true (by kernel_rfl)) logic_truth_dec_enc ((logic_truth_eq k v0).trans h)
noncomputable def logic_truth_an {ρ : Type} (k : Nat) : An UX ρ := fun args bx K =>
popA args fun v1 a2 =>
as_s23 v1 fun v0 =>
popN a2 <|
popN bx <|
(logic_truth k v0).bind fun r => K (logic_truth_enc r) []
theorem logic_truth_ok {ρ : Type} (k : Nat) : AnsOK Try.prog 43 (logic_truth_an (ρ := ρ) k) := by
  intro args bx K r h
  unfold logic_truth_an at h
  replace h := popA_inv h; obtain ⟨v1, a2, rfl, h⟩ := h
  replace h := as_s23_inv h; obtain ⟨v0, rfl, h⟩ := h
  replace h := popN_inv h; obtain ⟨rfl, h⟩ := h
  replace h := popN_inv h; obtain ⟨rfl, h⟩ := h
  replace h := bind_inv h
  obtain ⟨x, hx, h⟩ := h
  exact ⟨there_of Try.func43 (by kernel_rfl) logic_truth_body, _, _, h, logic_truth_con k v0 x hx⟩

/-! cadastre/logic.Join -/
noncomputable def logic_Join_code : Code := match Try.f22.body with | some c => c | none => .skip
theorem logic_Join_body : Try.f22.body = some logic_Join_code := by kernel_rfl
noncomputable def logic_Join_G {ρ : Type} (k : Nat) : Ans UX ρ := gk 31 (value_All_an k) (gk 43 (logic_truth_an k) (gk 44 (logic_answer_an k) (gnil)))
theorem logic_Join_gok {ρ : Type} (k : Nat) : GOK Try.prog (logic_Join_G (ρ := ρ) k) := gok_cons (value_All_ok k) (gok_cons (logic_truth_ok k) (gok_cons (logic_answer_ok k) (gok_nil)))
noncomputable def logic_Join_j3_s {ρ : Type} (k : Nat) : Run UX ρ := fun s K =>
popS 0 s.env fun v1 e2 =>
asI .i64 v1 fun op0 =>
popS 4 e2 fun v3 e4 =>
asP 4 0 v3 <|
popS 5 e4 fun v5 e6 =>
asP 5 0 v5 <|
popS 6 e6 fun v7 e8 =>
asP 6 0 v7 <|
popN e8 <|
popB 4 s.hp fun c9 e10 =>
popA c9 fun v11 c12 =>
asI .i64 v11 fun z13 =>
popA c12 fun v14 c15 =>
asI .i64 v14 fun z16 =>
popA c15 fun v17 c18 =>
asS v17 fun z19 =>
popN c18 <|
popB 5 e10 fun c20 e21 =>
popA c20 fun v22 c23 =>
asI .i64 v22 fun z24 =>
popA c23 fun v25 c26 =>
asI .i64 v25 fun z27 =>
popA c26 fun v28 c29 =>
asS v28 fun z30 =>
popN c29 <|
popB 6 e21 fun c31 e32 =>
popA c31 fun v33 c34 =>
asI .i64 v33 fun z35 =>
popA c34 fun v36 c37 =>
asI .i64 v36 fun z38 =>
popA c37 fun v39 c40 =>
asS v39 fun z41 =>
popN c40 <|
popN e32 <|
logic_Join_j3 k (fun t7 t6 => K .ret ⟨[(6, .ptr 6 0), (7, .pv (.int .i64 t7))], [(6, [.pv (.int .i64 t6.f0), .pv (.int .i64 t6.f1), .pv (.str t6.f2)])]⟩) op0 (⟨z13, z16, z19⟩ : S23) (⟨z24, z27, z30⟩ : S23) (⟨z35, z38, z41⟩ : S23)
noncomputable def logic_Join_cfg {ρ : Type} (k : Nat) : Cfg UX ρ where
  live i := (assoc [(0, [0, 1, 2]), (1, [0, 4, 5, 6]), (2, [6]), (3, [0, 4, 5, 6]), (4, [0, 5, 6, 8, 9]), (5, [6, 9]), (6, [0, 5, 6, 8]), (7, [0, 6, 8, 9, 10]), (8, [6, 9]), (9, [0, 6, 8, 10]), (10, [6, 8, 10]), (11, [6, 8, 10])] i).getD []
  boxes i := (assoc [(0, []), (1, [4, 5, 6]), (2, [6]), (3, [4, 5, 6]), (4, [5, 6]), (5, [6]), (6, [5, 6]), (7, [6]), (8, [6]), (9, [6]), (10, [6]), (11, [6])] i).getD []
  tk _ := []
  n := 53
  labelR l := (assoc [] l).getD 0
  loops := assoc []
  labels := assoc []
  joins := assoc [(3, logic_Join_j3_s k)]
  xl i e := match e with
    | .nxt => assoc [] i
    | .ret => assoc [(3, ([6, 7], [6]))] i
    | .exit j => (assoc [] i).bind fun l => assoc l j
    | .goto j => (assoc [] i).bind fun l => assoc l j
noncomputable def logic_Join_L : List Code := selI [] (loopsOf logic_Join_code)
noncomputable def logic_Join_J : List Code := selI [3] (joinsOf logic_Join_code)
noncomputable def logic_Join_S : List Code := scopesOf logic_Join_code
theorem logic_Join_j3_eq0 {ρ : Type} (k : Nat) (K : Ex → St UU → Option ρ) (op0 : Int) (a4 : S23) (b5 : S23) (t6 : S23) : exec UX (logic_Join_cfg k) (logic_Join_G k) (logic_Join_J.getD 0 .skip) ⟨[(0, .pv (.int .i64 op0)), (4, .ptr 4 0), (5, .ptr 5 0), (6, .ptr 6 0)], [(4, [.pv (.int .i64 a4.f0), .pv (.int .i64 a4.f1), .pv (.str a4.f2)]), (5, [.pv (.int .i64 b5.f0), .pv (.int .i64 b5.f1), .pv (.str b5.f2)]), (6, [.pv (.int .i64 t6.f0), .pv (.int .i64 t6.f1), .pv (.str t6.f2)])]⟩ (nrmK UX (logic_Join_cfg k) 3 K) = logic_Join_j3 k (fun t7 t6 => K .ret ⟨[(6, .ptr 6 0), (7, .pv (.int .i64 t7))], [(6, [.pv (.int .i64 t6.f0), .pv (.int .i64 t6.f1), .pv (.str t6.f2)])]⟩) op0 a4 b5 t6 := by kernel_rfl
theorem logic_Join_j3_ok0 {ρ : Type} (k : Nat) : JoinOK UX (logic_Join_cfg (ρ := ρ) k) (logic_Join_G k) (logic_Join_J.getD 0 .skip) 3 (logic_Join_j3_s k) := by
  intro s K r h
  obtain ⟨env, hp⟩ := s
  unfold logic_Join_j3_s at h
  replace h := popS_inv h; obtain ⟨v1, e2, rfl, h⟩ := h
  replace h := asI_inv h; obtain ⟨op0, rfl, h⟩ := h
  replace h := popS_inv h; obtain ⟨v3, e4, rfl, h⟩ := h
  replace h := asP_inv h; obtain ⟨rfl, h⟩ := h
  replace h := popS_inv h; obtain ⟨v5, e6, rfl, h⟩ := h
  replace h := asP_inv h; obtain ⟨rfl, h⟩ := h
  replace h := popS_inv h; obtain ⟨v7, e8, rfl, h⟩ := h
  replace h := asP_inv h; obtain ⟨rfl, h⟩ := h
  replace h := popN_inv h; obtain ⟨rfl, h⟩ := h
  replace h := popB_inv h; obtain ⟨c9, e10, rfl, h⟩ := h
  replace h := popA_inv h; obtain ⟨v11, c12, rfl, h⟩ := h
  replace h := asI_inv h; obtain ⟨z13, rfl, h⟩ := h
  replace h := popA_inv h; obtain ⟨v14, c15, rfl, h⟩ := h
  replace h := asI_inv h; obtain ⟨z16, rfl, h⟩ := h
  replace h := popA_inv h; obtain ⟨v17, c18, rfl, h⟩ := h
  replace h := asS_inv h; obtain ⟨z19, rfl, h⟩ := h
  replace h := popN_inv h; obtain ⟨rfl, h⟩ := h
  replace h := popB_inv h; obtain ⟨c20, e21, rfl, h⟩ := h
  replace h := popA_inv h; obtain ⟨v22, c23, rfl, h⟩ := h
  replace h := asI_inv h; obtain ⟨z24, rfl, h⟩ := h
  replace h := popA_inv h; obtain ⟨v25, c26, rfl, h⟩ := h
  replace h := asI_inv h; obtain ⟨z27, rfl, h⟩ := h
  replace h := popA_inv h; obtain ⟨v28, c29, rfl, h⟩ := h
  replace h := asS_inv h; obtain ⟨z30, rfl, h⟩ := h
  replace h := popN_inv h; obtain ⟨rfl, h⟩ := h
  replace h := popB_inv h; obtain ⟨c31, e32, rfl, h⟩ := h
  replace h := popA_inv h; obtain ⟨v33, c34, rfl, h⟩ := h
  replace h := asI_inv h; obtain ⟨z35, rfl, h⟩ := h
  replace h := popA_inv h; obtain ⟨v36, c37, rfl, h⟩ := h
  replace h := asI_inv h; obtain ⟨z38, rfl, h⟩ := h
  replace h := popA_inv h; obtain ⟨v39, c40, rfl, h⟩ := h
  replace h := asS_inv h; obtain ⟨z41, rfl, h⟩ := h
  replace h := popN_inv h; obtain ⟨rfl, h⟩ := h
  replace h := popN_inv h; obtain ⟨rfl, h⟩ := h
  exact (logic_Join_j3_eq0 k K op0 (⟨z13, z16, z19⟩ : S23) (⟨z24, z27, z30⟩ : S23) (⟨z35, z38, z41⟩ : S23)).trans h
theorem logic_Join_cok {ρ : Type} (k : Nat) : COK (logic_Join_cfg (ρ := ρ) k) (logic_Join_G k) logic_Join_code :=
  cok_of (tl := []) (tj := [(3, logic_Join_j3_s k)]) (tb := []) rfl rfl rfl (nil_all (by kernel_rfl)) (all_nth 1 (by kernel_rfl) ⟨join_case (by kernel_rfl) rfl (logic_Join_j3_ok0 k), trivial⟩) (fun p hp => by cases hp)
noncomputable def logic_Join_enc (r : S23 × Int) : AV UU := .pv (.tup [.typ (.s23 r.1), .int .i64 r.2])
noncomputable def logic_Join_dec (v : AV UU) (_ : List (List (AV UU))) : Option (S23 × Int) :=
asT v fun q1 =>
popA q1 fun p2 q3 =>
as_s23 (.pv p2) fun r0 =>
popA q3 fun p4 q5 =>
asI .i64 (.pv p4) fun r1 =>
popN q5 <|
some (r0, r1)
theorem logic_Join_dec_enc (v : AV UU) (b : List (List (AV UU))) (r : S23 × Int) (h : logic_Join_dec v b = some r) : v = logic_Join_enc r := by
  unfold logic_Join_dec at h
  replace h := asT_inv h; obtain ⟨q1, rfl, h⟩ := h
  replace h := popA_inv h; obtain ⟨p2, q3, rfl, h⟩ := h
  replace h := as_s23_inv h; obtain ⟨r0, e, h⟩ := h; cases e
  replace h := popA_inv h; obtain ⟨p4, q5, rfl, h⟩ := h
  replace h := asI_inv h; obtain ⟨r1, e, h⟩ := h; cases e
  replace h := popN_inv h; obtain ⟨rfl, h⟩ := h
  cases h
  rfl
theorem logic_Join_eq (k : Nat) (op0 : Int) (a1 : S23) (b2 : S23) : bodyK UX (logic_Join_cfg k) (logic_Join_G k) Try.f22 [.pv (.int .i64 op0), .pv (.typ (.s23 a1)), .pv (.typ (.s23 b2))] [] logic_Join_dec = logic_Join k op0 a1 b2 := by kernel_rfl
theorem logic_Join_con (k : Nat) (op0 : Int) (a1 : S23) (b2 : S23) (r : S23 × Int) (h : logic_Join k op0 a1 b2 = some r) : Con (X := UX) Try.prog 22 [.pv (.int .i64 op0), .pv (.typ (.s23 a1)), .pv (.typ (.s23 b2))] [] (logic_Join_enc r) [] :=
  con_of_body xok tok Try.func22 logic_Join_body (logic_Join_gok k) rfl (logic_Join_cok k) (of_decide_eq_true (by kernel_rfl)) logic_Join_dec_enc ((logic_Join_eq k op0 a1 b2).trans h)
noncomputable def logic_Join_an {ρ : Type} (k : Nat) : An UX ρ := fun args bx K =>
popA args fun v1 a2 =>
asI .i64 v1 fun op0 =>
popA a2 fun v3 a4 =>
as_s23 v3 fun a1 =>
popA a4 fun v5 a6 =>
as_s23 v5 fun b2 =>
popN a6 <|
popN bx <|
(logic_Join k op0 a1 b2).bind fun r => K (logic_Join_enc r) []
theorem logic_Join_ok {ρ : Type} (k : Nat) : AnsOK Try.prog 22 (logic_Join_an (ρ := ρ) k) := by
  intro args bx K r h
  unfold logic_Join_an at h
  replace h := popA_inv h; obtain ⟨v1, a2, rfl, h⟩ := h
  replace h := asI_inv h; obtain ⟨op0, rfl, h⟩ := h
  replace h := popA_inv h; obtain ⟨v3, a4, rfl, h⟩ := h
  replace h := as_s23_inv h; obtain ⟨a1, rfl, h⟩ := h
  replace h := popA_inv h; obtain ⟨v5, a6, rfl, h⟩ := h
  replace h := as_s23_inv h; obtain ⟨b2, rfl, h⟩ := h
  replace h := popN_inv h; obtain ⟨rfl, h⟩ := h
  replace h := popN_inv h; obtain ⟨rfl, h⟩ := h
  replace h := bind_inv h
  obtain ⟨x, hx, h⟩ := h
  exact ⟨there_of Try.func22 (by kernel_rfl) logic_Join_body, _, _, h, logic_Join_con k op0 a1 b2 x hx⟩

/-! cadastre/cadastrelaw3.wakes -/
noncomputable def cadastrelaw3_wakes_code : Code := match Try.f21.body with | some c => c | none => .skip
theorem cadastrelaw3_wakes_body : Try.f21.body = some cadastrelaw3_wakes_code := by kernel_rfl
noncomputable def cadastrelaw3_wakes_G {ρ : Type} (k : Nat) : Ans UX ρ := gk 22 (logic_Join_an k) (gk 19 (cadastrelaw3_num_an k) (gnil))
theorem cadastrelaw3_wakes_gok {ρ : Type} (k : Nat) : GOK Try.prog (cadastrelaw3_wakes_G (ρ := ρ) k) := gok_cons (logic_Join_ok k) (gok_cons (cadastrelaw3_num_ok k) (gok_nil))
noncomputable def cadastrelaw3_wakes_cfg {ρ : Type} (k : Nat) : Cfg UX ρ where
  live i := (assoc [(0, []), (1, []), (2, [1, 2])] i).getD []
  boxes i := (assoc [(0, []), (1, []), (2, [1])] i).getD []
  tk _ := []
  n := 17
  labelR l := (assoc [] l).getD 0
  loops := assoc []
  labels := assoc []
  joins := assoc []
  xl i e := match e with
    | .nxt => assoc [] i
    | .ret => assoc [] i
    | .exit j => (assoc [] i).bind fun l => assoc l j
    | .goto j => (assoc [] i).bind fun l => assoc l j
noncomputable def cadastrelaw3_wakes_L : List Code := selI [] (loopsOf cadastrelaw3_wakes_code)
noncomputable def cadastrelaw3_wakes_J : List Code := selI [] (joinsOf cadastrelaw3_wakes_code)
noncomputable def cadastrelaw3_wakes_S : List Code := scopesOf cadastrelaw3_wakes_code
theorem cadastrelaw3_wakes_cok {ρ : Type} (k : Nat) : COK (cadastrelaw3_wakes_cfg (ρ := ρ) k) (cadastrelaw3_wakes_G k) cadastrelaw3_wakes_code :=
  cok_of (tl := []) (tj := []) (tb := []) rfl rfl rfl (nil_all (by kernel_rfl)) (nil_all (by kernel_rfl)) (fun p hp => by cases hp)
noncomputable def cadastrelaw3_wakes_enc (r : Bool) : AV UU := .pv (.bool r)
noncomputable def cadastrelaw3_wakes_dec (v : AV UU) (_ : List (List (AV UU))) : Option Bool :=
asB v fun r0 =>
some r0
theorem cadastrelaw3_wakes_dec_enc (v : AV UU) (b : List (List (AV UU))) (r : Bool) (h : cadastrelaw3_wakes_dec v b = some r) : v = cadastrelaw3_wakes_enc r := by
  unfold cadastrelaw3_wakes_dec at h
  replace h := asB_inv h; obtain ⟨r0, rfl, h⟩ := h
  cases h
  rfl
theorem cadastrelaw3_wakes_eq (k : Nat) : bodyK UX (cadastrelaw3_wakes_cfg k) (cadastrelaw3_wakes_G k) Try.f21 [] [] cadastrelaw3_wakes_dec = cadastrelaw3_wakes k := by kernel_rfl
theorem cadastrelaw3_wakes_con (k : Nat) (r : Bool) (h : cadastrelaw3_wakes k = some r) : Con (X := UX) Try.prog 21 [] [] (cadastrelaw3_wakes_enc r) [] :=
  con_of_body xok tok Try.func21 cadastrelaw3_wakes_body (cadastrelaw3_wakes_gok k) rfl (cadastrelaw3_wakes_cok k) (of_decide_eq_true (by kernel_rfl)) cadastrelaw3_wakes_dec_enc ((cadastrelaw3_wakes_eq k).trans h)
noncomputable def cadastrelaw3_wakes_an {ρ : Type} (k : Nat) : An UX ρ := fun args bx K =>
popN args <|
popN bx <|
(cadastrelaw3_wakes k).bind fun r => K (cadastrelaw3_wakes_enc r) []
theorem cadastrelaw3_wakes_ok {ρ : Type} (k : Nat) : AnsOK Try.prog 21 (cadastrelaw3_wakes_an (ρ := ρ) k) := by
  intro args bx K r h
  unfold cadastrelaw3_wakes_an at h
  replace h := popN_inv h; obtain ⟨rfl, h⟩ := h
  replace h := popN_inv h; obtain ⟨rfl, h⟩ := h
  replace h := bind_inv h
  obtain ⟨x, hx, h⟩ := h
  exact ⟨there_of Try.func21 (by kernel_rfl) cadastrelaw3_wakes_body, _, _, h, cadastrelaw3_wakes_con k x hx⟩
end Go.Proofs.Ytahgjfdndpnpfaa.T
