/-
  What the program's functions answer: the printed functions' answers.
-/
import Derived.Test.YtjkgphpmdkbpfaaDoorVG4
namespace Go.Proofs.YtjkgphpmdkbpfaaDoor.V
open Go Go.AX
/-! cadastre/logic.answer -/
noncomputable def logic_answer_code : Code := match Tryd.f54.body with | some c => c | none => .skip
theorem logic_answer_body : Tryd.f54.body = some logic_answer_code := by kernel_rfl
noncomputable def logic_answer_G {ρ : Type} (k : Nat) : Ans UX ρ := gk 65 (value_Int_an k) (gnil)
theorem logic_answer_gok {ρ : Type} (k : Nat) : GOK Tryd.prog (logic_answer_G (ρ := ρ) k) := gok_cons (value_Int_ok k) (gok_nil)
noncomputable def logic_answer_cfg {ρ : Type} (k : Nat) : Cfg UX ρ where
  live i := (assoc [(0, [0]), (1, [0, 2])] i).getD []
  boxes i := (assoc [(0, []), (1, [2])] i).getD []
  tk i := (assoc [] i).getD []
  n := 10
  labelR l := (assoc [] l).getD 0
  loops := assoc []
  labels := assoc []
  joins := assoc []
  xl i e := match e with
    | .nxt => assoc [] i
    | .ret => assoc [] i
    | .exit j => (assoc [] i).bind fun l => assoc l j
    | .goto j => (assoc [] i).bind fun l => assoc l j
noncomputable def logic_answer_L : List Code := selI [] (loopsOf logic_answer_code)
noncomputable def logic_answer_J : List Code := selI [] (joinsOf logic_answer_code)
noncomputable def logic_answer_S : List Code := scopesOf logic_answer_code
theorem logic_answer_cok {ρ : Type} (k : Nat) : COK (logic_answer_cfg (ρ := ρ) k) (logic_answer_G k) logic_answer_code :=
  cok_of (tl := []) (tj := []) (tb := []) rfl rfl rfl (nil_all (by kernel_rfl)) (nil_all (by kernel_rfl)) (fun p hp => by cases hp)
noncomputable def logic_answer_enc (r : S29) : AV UU := .pv (.typ (.s29 r))
noncomputable def logic_answer_dec (v : AV UU) (_ : List (List (AV UU))) : Option S29 :=
as_s29 v fun r0 =>
some r0
theorem logic_answer_dec_enc (v : AV UU) (b : List (List (AV UU))) (r : S29) (h : logic_answer_dec v b = some r) : v = logic_answer_enc r := by
  unfold logic_answer_dec at h
  replace h := as_s29_inv h; obtain ⟨r0, rfl, h⟩ := h
  cases h
  rfl
theorem logic_answer_eq (k : Nat) (t0 : Int) : bodyK UX (logic_answer_cfg k) (logic_answer_G k) Tryd.f54 [.pv (.int .i64 t0)] [] logic_answer_dec = logic_answer k t0 := by kernel_rfl
theorem logic_answer_con (k : Nat) (t0 : Int) (r : S29) (h : logic_answer k t0 = some r) : Con (X := UX) Tryd.prog 54 [.pv (.int .i64 t0)] [] (logic_answer_enc r) [] :=
  con_of_body xok tok Tryd.func54 logic_answer_body (logic_answer_gok k) rfl (logic_answer_cok k) (of_decide_eq_true (by kernel_rfl)) logic_answer_dec_enc ((logic_answer_eq k t0).trans h)
noncomputable def logic_answer_an {ρ : Type} (k : Nat) : An UX ρ := fun args bx K =>
popA args fun v1 a2 =>
asI .i64 v1 fun t0 =>
popN a2 <|
popN bx <|
(logic_answer k t0).bind fun r => K (logic_answer_enc r) []
theorem logic_answer_ok {ρ : Type} (k : Nat) : AnsOK Tryd.prog 54 (logic_answer_an (ρ := ρ) k) := by
  intro args bx K r h
  unfold logic_answer_an at h
  replace h := popA_inv h; obtain ⟨v1, a2, rfl, h⟩ := h
  replace h := asI_inv h; obtain ⟨t0, rfl, h⟩ := h
  replace h := popN_inv h; obtain ⟨rfl, h⟩ := h
  replace h := popN_inv h; obtain ⟨rfl, h⟩ := h
  replace h := bind_inv h
  obtain ⟨x, hx, h⟩ := h
  exact ⟨there_of Tryd.func54 (by kernel_rfl) logic_answer_body, _, _, h, logic_answer_con k t0 x hx⟩

/-! cadastre/logic.Not -/
noncomputable def logic_Not_code : Code := match Tryd.f41.body with | some c => c | none => .skip
theorem logic_Not_body : Tryd.f41.body = some logic_Not_code := by kernel_rfl
noncomputable def logic_Not_G {ρ : Type} (k : Nat) : Ans UX ρ := gk 53 (logic_truth_an k) (gk 54 (logic_answer_an k) (gnil))
theorem logic_Not_gok {ρ : Type} (k : Nat) : GOK Tryd.prog (logic_Not_G (ρ := ρ) k) := gok_cons (logic_truth_ok k) (gok_cons (logic_answer_ok k) (gok_nil))
noncomputable def logic_Not_cfg {ρ : Type} (k : Nat) : Cfg UX ρ where
  live i := (assoc [(0, [0]), (1, [1, 2]), (2, [2, 4, 5]), (3, [2, 5]), (4, [2, 4])] i).getD []
  boxes i := (assoc [(0, []), (1, [1, 2]), (2, [2]), (3, [2]), (4, [2])] i).getD []
  tk i := (assoc [] i).getD []
  n := 18
  labelR l := (assoc [] l).getD 0
  loops := assoc []
  labels := assoc []
  joins := assoc []
  xl i e := match e with
    | .nxt => assoc [] i
    | .ret => assoc [] i
    | .exit j => (assoc [] i).bind fun l => assoc l j
    | .goto j => (assoc [] i).bind fun l => assoc l j
noncomputable def logic_Not_L : List Code := selI [] (loopsOf logic_Not_code)
noncomputable def logic_Not_J : List Code := selI [] (joinsOf logic_Not_code)
noncomputable def logic_Not_S : List Code := scopesOf logic_Not_code
theorem logic_Not_cok {ρ : Type} (k : Nat) : COK (logic_Not_cfg (ρ := ρ) k) (logic_Not_G k) logic_Not_code :=
  cok_of (tl := []) (tj := []) (tb := []) rfl rfl rfl (nil_all (by kernel_rfl)) (nil_all (by kernel_rfl)) (fun p hp => by cases hp)
noncomputable def logic_Not_enc (r : S29 × Int) : AV UU := .pv (.tup [.typ (.s29 r.1), .int .i64 r.2])
noncomputable def logic_Not_dec (v : AV UU) (_ : List (List (AV UU))) : Option (S29 × Int) :=
asT v fun q1 =>
popA q1 fun p2 q3 =>
as_s29 (.pv p2) fun r0 =>
popA q3 fun p4 q5 =>
asI .i64 (.pv p4) fun r1 =>
popN q5 <|
some (r0, r1)
theorem logic_Not_dec_enc (v : AV UU) (b : List (List (AV UU))) (r : S29 × Int) (h : logic_Not_dec v b = some r) : v = logic_Not_enc r := by
  unfold logic_Not_dec at h
  replace h := asT_inv h; obtain ⟨q1, rfl, h⟩ := h
  replace h := popA_inv h; obtain ⟨p2, q3, rfl, h⟩ := h
  replace h := as_s29_inv h; obtain ⟨r0, e, h⟩ := h; cases e
  replace h := popA_inv h; obtain ⟨p4, q5, rfl, h⟩ := h
  replace h := asI_inv h; obtain ⟨r1, e, h⟩ := h; cases e
  replace h := popN_inv h; obtain ⟨rfl, h⟩ := h
  cases h
  rfl
theorem logic_Not_eq (k : Nat) (v0 : S29) : bodyK UX (logic_Not_cfg k) (logic_Not_G k) Tryd.f41 [.pv (.typ (.s29 v0))] [] logic_Not_dec = logic_Not k v0 := by kernel_rfl
theorem logic_Not_con (k : Nat) (v0 : S29) (r : S29 × Int) (h : logic_Not k v0 = some r) : Con (X := UX) Tryd.prog 41 [.pv (.typ (.s29 v0))] [] (logic_Not_enc r) [] :=
  con_of_body xok tok Tryd.func41 logic_Not_body (logic_Not_gok k) rfl (logic_Not_cok k) (of_decide_eq_true (by kernel_rfl)) logic_Not_dec_enc ((logic_Not_eq k v0).trans h)
noncomputable def logic_Not_an {ρ : Type} (k : Nat) : An UX ρ := fun args bx K =>
popA args fun v1 a2 =>
as_s29 v1 fun v0 =>
popN a2 <|
popN bx <|
(logic_Not k v0).bind fun r => K (logic_Not_enc r) []
theorem logic_Not_ok {ρ : Type} (k : Nat) : AnsOK Tryd.prog 41 (logic_Not_an (ρ := ρ) k) := by
  intro args bx K r h
  unfold logic_Not_an at h
  replace h := popA_inv h; obtain ⟨v1, a2, rfl, h⟩ := h
  replace h := as_s29_inv h; obtain ⟨v0, rfl, h⟩ := h
  replace h := popN_inv h; obtain ⟨rfl, h⟩ := h
  replace h := popN_inv h; obtain ⟨rfl, h⟩ := h
  replace h := bind_inv h
  obtain ⟨x, hx, h⟩ := h
  exact ⟨there_of Tryd.func41 (by kernel_rfl) logic_Not_body, _, _, h, logic_Not_con k v0 x hx⟩

/-! cadastre/logic.True -/
noncomputable def logic_True_code : Code := match Tryd.f42.body with | some c => c | none => .skip
theorem logic_True_body : Tryd.f42.body = some logic_True_code := by kernel_rfl
noncomputable def logic_True_G {ρ : Type} (k : Nat) : Ans UX ρ := gk 53 (logic_truth_an k) (gnil)
theorem logic_True_gok {ρ : Type} (k : Nat) : GOK Tryd.prog (logic_True_G (ρ := ρ) k) := gok_cons (logic_truth_ok k) (gok_nil)
noncomputable def logic_True_cfg {ρ : Type} (k : Nat) : Cfg UX ρ where
  live i := (assoc [(0, [0]), (1, [1]), (2, [4, 5])] i).getD []
  boxes i := (assoc [(0, []), (1, [1]), (2, [])] i).getD []
  tk i := (assoc [] i).getD []
  n := 18
  labelR l := (assoc [] l).getD 0
  loops := assoc []
  labels := assoc []
  joins := assoc []
  xl i e := match e with
    | .nxt => assoc [] i
    | .ret => assoc [] i
    | .exit j => (assoc [] i).bind fun l => assoc l j
    | .goto j => (assoc [] i).bind fun l => assoc l j
noncomputable def logic_True_L : List Code := selI [] (loopsOf logic_True_code)
noncomputable def logic_True_J : List Code := selI [] (joinsOf logic_True_code)
noncomputable def logic_True_S : List Code := scopesOf logic_True_code
theorem logic_True_cok {ρ : Type} (k : Nat) : COK (logic_True_cfg (ρ := ρ) k) (logic_True_G k) logic_True_code :=
  cok_of (tl := []) (tj := []) (tb := []) rfl rfl rfl (nil_all (by kernel_rfl)) (nil_all (by kernel_rfl)) (fun p hp => by cases hp)
noncomputable def logic_True_enc (r : Bool × Int) : AV UU := .pv (.tup [.bool r.1, .int .i64 r.2])
noncomputable def logic_True_dec (v : AV UU) (_ : List (List (AV UU))) : Option (Bool × Int) :=
asT v fun q1 =>
popA q1 fun p2 q3 =>
asB (.pv p2) fun r0 =>
popA q3 fun p4 q5 =>
asI .i64 (.pv p4) fun r1 =>
popN q5 <|
some (r0, r1)
theorem logic_True_dec_enc (v : AV UU) (b : List (List (AV UU))) (r : Bool × Int) (h : logic_True_dec v b = some r) : v = logic_True_enc r := by
  unfold logic_True_dec at h
  replace h := asT_inv h; obtain ⟨q1, rfl, h⟩ := h
  replace h := popA_inv h; obtain ⟨p2, q3, rfl, h⟩ := h
  replace h := asB_inv h; obtain ⟨r0, e, h⟩ := h; cases e
  replace h := popA_inv h; obtain ⟨p4, q5, rfl, h⟩ := h
  replace h := asI_inv h; obtain ⟨r1, e, h⟩ := h; cases e
  replace h := popN_inv h; obtain ⟨rfl, h⟩ := h
  cases h
  rfl
theorem logic_True_eq (k : Nat) (v0 : S29) : bodyK UX (logic_True_cfg k) (logic_True_G k) Tryd.f42 [.pv (.typ (.s29 v0))] [] logic_True_dec = logic_True k v0 := by kernel_rfl
theorem logic_True_con (k : Nat) (v0 : S29) (r : Bool × Int) (h : logic_True k v0 = some r) : Con (X := UX) Tryd.prog 42 [.pv (.typ (.s29 v0))] [] (logic_True_enc r) [] :=
  con_of_body xok tok Tryd.func42 logic_True_body (logic_True_gok k) rfl (logic_True_cok k) (of_decide_eq_true (by kernel_rfl)) logic_True_dec_enc ((logic_True_eq k v0).trans h)
noncomputable def logic_True_an {ρ : Type} (k : Nat) : An UX ρ := fun args bx K =>
popA args fun v1 a2 =>
as_s29 v1 fun v0 =>
popN a2 <|
popN bx <|
(logic_True k v0).bind fun r => K (logic_True_enc r) []
theorem logic_True_ok {ρ : Type} (k : Nat) : AnsOK Tryd.prog 42 (logic_True_an (ρ := ρ) k) := by
  intro args bx K r h
  unfold logic_True_an at h
  replace h := popA_inv h; obtain ⟨v1, a2, rfl, h⟩ := h
  replace h := as_s29_inv h; obtain ⟨v0, rfl, h⟩ := h
  replace h := popN_inv h; obtain ⟨rfl, h⟩ := h
  replace h := popN_inv h; obtain ⟨rfl, h⟩ := h
  replace h := bind_inv h
  obtain ⟨x, hx, h⟩ := h
  exact ⟨there_of Tryd.func42 (by kernel_rfl) logic_True_body, _, _, h, logic_True_con k v0 x hx⟩

/-! cadastre/arith.Neg -/
noncomputable def arith_Neg_code : Code := match Tryd.f55.body with | some c => c | none => .skip
theorem arith_Neg_body : Tryd.f55.body = some arith_Neg_code := by kernel_rfl
noncomputable def arith_Neg_G {ρ : Type} (k : Nat) : Ans UX ρ := gk 40 (value_Good_an k) (gk 65 (value_Int_an k) (gnil))
theorem arith_Neg_gok {ρ : Type} (k : Nat) : GOK Tryd.prog (arith_Neg_G (ρ := ρ) k) := gok_cons (value_Good_ok k) (gok_cons (value_Int_ok k) (gok_nil))
noncomputable def arith_Neg_cfg {ρ : Type} (k : Nat) : Cfg UX ρ where
  live i := (assoc [(0, [0]), (1, [1, 2]), (2, [2]), (3, [1, 2]), (4, [1, 2]), (5, [1, 2]), (6, [2]), (7, [1, 2]), (8, [2]), (9, [1, 2])] i).getD []
  boxes i := (assoc [(0, []), (1, [1, 2]), (2, [2]), (3, [1, 2]), (4, [1, 2]), (5, [1, 2]), (6, [2]), (7, [1, 2]), (8, [2]), (9, [1, 2])] i).getD []
  tk i := (assoc [] i).getD []
  n := 28
  labelR l := (assoc [] l).getD 0
  loops := assoc []
  labels := assoc []
  joins := assoc []
  xl i e := match e with
    | .nxt => assoc [] i
    | .ret => assoc [] i
    | .exit j => (assoc [] i).bind fun l => assoc l j
    | .goto j => (assoc [] i).bind fun l => assoc l j
noncomputable def arith_Neg_L : List Code := selI [] (loopsOf arith_Neg_code)
noncomputable def arith_Neg_J : List Code := selI [] (joinsOf arith_Neg_code)
noncomputable def arith_Neg_S : List Code := scopesOf arith_Neg_code
theorem arith_Neg_cok {ρ : Type} (k : Nat) : COK (arith_Neg_cfg (ρ := ρ) k) (arith_Neg_G k) arith_Neg_code :=
  cok_of (tl := []) (tj := []) (tb := []) rfl rfl rfl (nil_all (by kernel_rfl)) (nil_all (by kernel_rfl)) (fun p hp => by cases hp)
noncomputable def arith_Neg_enc (r : S29 × Int) : AV UU := .pv (.tup [.typ (.s29 r.1), .int .i64 r.2])
noncomputable def arith_Neg_dec (v : AV UU) (_ : List (List (AV UU))) : Option (S29 × Int) :=
asT v fun q1 =>
popA q1 fun p2 q3 =>
as_s29 (.pv p2) fun r0 =>
popA q3 fun p4 q5 =>
asI .i64 (.pv p4) fun r1 =>
popN q5 <|
some (r0, r1)
theorem arith_Neg_dec_enc (v : AV UU) (b : List (List (AV UU))) (r : S29 × Int) (h : arith_Neg_dec v b = some r) : v = arith_Neg_enc r := by
  unfold arith_Neg_dec at h
  replace h := asT_inv h; obtain ⟨q1, rfl, h⟩ := h
  replace h := popA_inv h; obtain ⟨p2, q3, rfl, h⟩ := h
  replace h := as_s29_inv h; obtain ⟨r0, e, h⟩ := h; cases e
  replace h := popA_inv h; obtain ⟨p4, q5, rfl, h⟩ := h
  replace h := asI_inv h; obtain ⟨r1, e, h⟩ := h; cases e
  replace h := popN_inv h; obtain ⟨rfl, h⟩ := h
  cases h
  rfl
theorem arith_Neg_eq (k : Nat) (v0 : S29) : bodyK UX (arith_Neg_cfg k) (arith_Neg_G k) Tryd.f55 [.pv (.typ (.s29 v0))] [] arith_Neg_dec = arith_Neg k v0 := by kernel_rfl
theorem arith_Neg_con (k : Nat) (v0 : S29) (r : S29 × Int) (h : arith_Neg k v0 = some r) : Con (X := UX) Tryd.prog 55 [.pv (.typ (.s29 v0))] [] (arith_Neg_enc r) [] :=
  con_of_body xok tok Tryd.func55 arith_Neg_body (arith_Neg_gok k) rfl (arith_Neg_cok k) (of_decide_eq_true (by kernel_rfl)) arith_Neg_dec_enc ((arith_Neg_eq k v0).trans h)
noncomputable def arith_Neg_an {ρ : Type} (k : Nat) : An UX ρ := fun args bx K =>
popA args fun v1 a2 =>
as_s29 v1 fun v0 =>
popN a2 <|
popN bx <|
(arith_Neg k v0).bind fun r => K (arith_Neg_enc r) []
theorem arith_Neg_ok {ρ : Type} (k : Nat) : AnsOK Tryd.prog 55 (arith_Neg_an (ρ := ρ) k) := by
  intro args bx K r h
  unfold arith_Neg_an at h
  replace h := popA_inv h; obtain ⟨v1, a2, rfl, h⟩ := h
  replace h := as_s29_inv h; obtain ⟨v0, rfl, h⟩ := h
  replace h := popN_inv h; obtain ⟨rfl, h⟩ := h
  replace h := popN_inv h; obtain ⟨rfl, h⟩ := h
  replace h := bind_inv h
  obtain ⟨x, hx, h⟩ := h
  exact ⟨there_of Tryd.func55 (by kernel_rfl) arith_Neg_body, _, _, h, arith_Neg_con k v0 x hx⟩

/-! strconv.FormatInt -/
noncomputable def strconv_FormatInt_code : Code := match Tryd.f71.body with | some c => c | none => .skip
theorem strconv_FormatInt_body : Tryd.f71.body = some strconv_FormatInt_code := by kernel_rfl
noncomputable def strconv_FormatInt_enc (r : ByteArray) : AV UU := .pv (.str r)
open Go.RowKit in
set_option maxRecDepth 100000 in
set_option maxHeartbeats 1000000 in
theorem strconv_FormatInt_con (k : Nat) (c0 : Int) (c1 : Int) (r : ByteArray) (h : strconv_FormatInt k c0 c1 = some r) : Con (X := UX) Tryd.prog 71 [.pv (.int .i64 c0), .pv (.int .i64 c1)] [] (strconv_FormatInt_enc r) [] := by
  unfold strconv_FormatInt at h
  unfold chk at h
  split at h
  · rename_i hc
    obtain ⟨rfl, hb⟩ := hc
    rw [big_eq, decide_eq_true_eq] at hb
    obtain rfl := Option.some.inj h
    exact con_numNum xok.wpos fun D w hI => (Any.strconv_FormatInt_10 Tryd.lays173 c0 hb.1 hb.2 w hI.1).mono fun e w' hw => by
      obtain ⟨rfl, k, os, rfl⟩ := hw
      exact ⟨rfl, Go.Lib.below_grow _ w (Nat.le_refl _) k os⟩
  · cases h
noncomputable def strconv_FormatInt_an {ρ : Type} (k : Nat) : An UX ρ := fun args bx K =>
popA args fun v1 a2 =>
asI .i64 v1 fun c0 =>
popA a2 fun v3 a4 =>
asI .i64 v3 fun c1 =>
popN a4 <|
popN bx <|
(strconv_FormatInt k c0 c1).bind fun r => K (strconv_FormatInt_enc r) []
theorem strconv_FormatInt_ok {ρ : Type} (k : Nat) : AnsOK Tryd.prog 71 (strconv_FormatInt_an (ρ := ρ) k) := by
  intro args bx K r h
  unfold strconv_FormatInt_an at h
  replace h := popA_inv h; obtain ⟨v1, a2, rfl, h⟩ := h
  replace h := asI_inv h; obtain ⟨c0, rfl, h⟩ := h
  replace h := popA_inv h; obtain ⟨v3, a4, rfl, h⟩ := h
  replace h := asI_inv h; obtain ⟨c1, rfl, h⟩ := h
  replace h := popN_inv h; obtain ⟨rfl, h⟩ := h
  replace h := popN_inv h; obtain ⟨rfl, h⟩ := h
  replace h := bind_inv h
  obtain ⟨x, hx, h⟩ := h
  exact ⟨there_of Tryd.func71 (by kernel_rfl) strconv_FormatInt_body, _, _, h, strconv_FormatInt_con k c0 c1 x hx⟩

/-! cadastre/value.Text -/
noncomputable def value_Text_code : Code := match Tryd.f67.body with | some c => c | none => .skip
theorem value_Text_body : Tryd.f67.body = some value_Text_code := by kernel_rfl
noncomputable def value_Text_G {ρ : Type} (k : Nat) : Ans UX ρ := gnil
theorem value_Text_gok {ρ : Type} (k : Nat) : GOK Tryd.prog (value_Text_G (ρ := ρ) k) := gok_nil
noncomputable def value_Text_cfg {ρ : Type} (k : Nat) : Cfg UX ρ where
  live i := (assoc [(0, [0]), (1, [0, 2])] i).getD []
  boxes i := (assoc [(0, []), (1, [2])] i).getD []
  tk i := (assoc [] i).getD []
  n := 5
  labelR l := (assoc [] l).getD 0
  loops := assoc []
  labels := assoc []
  joins := assoc []
  xl i e := match e with
    | .nxt => assoc [] i
    | .ret => assoc [] i
    | .exit j => (assoc [] i).bind fun l => assoc l j
    | .goto j => (assoc [] i).bind fun l => assoc l j
noncomputable def value_Text_L : List Code := selI [] (loopsOf value_Text_code)
noncomputable def value_Text_J : List Code := selI [] (joinsOf value_Text_code)
noncomputable def value_Text_S : List Code := scopesOf value_Text_code
theorem value_Text_cok {ρ : Type} (k : Nat) : COK (value_Text_cfg (ρ := ρ) k) (value_Text_G k) value_Text_code :=
  cok_of (tl := []) (tj := []) (tb := []) rfl rfl rfl (nil_all (by kernel_rfl)) (nil_all (by kernel_rfl)) (fun p hp => by cases hp)
noncomputable def value_Text_enc (r : S29) : AV UU := .pv (.typ (.s29 r))
noncomputable def value_Text_dec (v : AV UU) (_ : List (List (AV UU))) : Option S29 :=
as_s29 v fun r0 =>
some r0
theorem value_Text_dec_enc (v : AV UU) (b : List (List (AV UU))) (r : S29) (h : value_Text_dec v b = some r) : v = value_Text_enc r := by
  unfold value_Text_dec at h
  replace h := as_s29_inv h; obtain ⟨r0, rfl, h⟩ := h
  cases h
  rfl
theorem value_Text_eq (k : Nat) (s0 : ByteArray) : bodyK UX (value_Text_cfg k) (value_Text_G k) Tryd.f67 [.pv (.str s0)] [] value_Text_dec = value_Text k s0 := by kernel_rfl
theorem value_Text_con (k : Nat) (s0 : ByteArray) (r : S29) (h : value_Text k s0 = some r) : Con (X := UX) Tryd.prog 67 [.pv (.str s0)] [] (value_Text_enc r) [] :=
  con_of_body xok tok Tryd.func67 value_Text_body (value_Text_gok k) rfl (value_Text_cok k) (of_decide_eq_true (by kernel_rfl)) value_Text_dec_enc ((value_Text_eq k s0).trans h)
noncomputable def value_Text_an {ρ : Type} (k : Nat) : An UX ρ := fun args bx K =>
popA args fun v1 a2 =>
asS v1 fun s0 =>
popN a2 <|
popN bx <|
(value_Text k s0).bind fun r => K (value_Text_enc r) []
theorem value_Text_ok {ρ : Type} (k : Nat) : AnsOK Tryd.prog 67 (value_Text_an (ρ := ρ) k) := by
  intro args bx K r h
  unfold value_Text_an at h
  replace h := popA_inv h; obtain ⟨v1, a2, rfl, h⟩ := h
  replace h := asS_inv h; obtain ⟨s0, rfl, h⟩ := h
  replace h := popN_inv h; obtain ⟨rfl, h⟩ := h
  replace h := popN_inv h; obtain ⟨rfl, h⟩ := h
  replace h := bind_inv h
  obtain ⟨x, hx, h⟩ := h
  exact ⟨there_of Tryd.func67 (by kernel_rfl) value_Text_body, _, _, h, value_Text_con k s0 x hx⟩

/-! cadastre/arith.Text -/
noncomputable def arith_Text_code : Code := match Tryd.f66.body with | some c => c | none => .skip
theorem arith_Text_body : Tryd.f66.body = some arith_Text_code := by kernel_rfl
noncomputable def arith_Text_G {ρ : Type} (k : Nat) : Ans UX ρ := gk 40 (value_Good_an k) (gk 71 (strconv_FormatInt_an k) (gk 67 (value_Text_an k) (gnil)))
theorem arith_Text_gok {ρ : Type} (k : Nat) : GOK Tryd.prog (arith_Text_G (ρ := ρ) k) := gok_cons (value_Good_ok k) (gok_cons (strconv_FormatInt_ok k) (gok_cons (value_Text_ok k) (gok_nil)))
noncomputable def arith_Text_cfg {ρ : Type} (k : Nat) : Cfg UX ρ where
  live i := (assoc [(0, [0]), (1, [1, 2]), (2, [2]), (3, [1, 2]), (4, [1, 2]), (5, [1, 2])] i).getD []
  boxes i := (assoc [(0, []), (1, [1, 2]), (2, [2]), (3, [1, 2]), (4, [1, 2]), (5, [1, 2])] i).getD []
  tk i := (assoc [] i).getD []
  n := 18
  labelR l := (assoc [] l).getD 0
  loops := assoc []
  labels := assoc []
  joins := assoc []
  xl i e := match e with
    | .nxt => assoc [] i
    | .ret => assoc [] i
    | .exit j => (assoc [] i).bind fun l => assoc l j
    | .goto j => (assoc [] i).bind fun l => assoc l j
noncomputable def arith_Text_L : List Code := selI [] (loopsOf arith_Text_code)
noncomputable def arith_Text_J : List Code := selI [] (joinsOf arith_Text_code)
noncomputable def arith_Text_S : List Code := scopesOf arith_Text_code
theorem arith_Text_cok {ρ : Type} (k : Nat) : COK (arith_Text_cfg (ρ := ρ) k) (arith_Text_G k) arith_Text_code :=
  cok_of (tl := []) (tj := []) (tb := []) rfl rfl rfl (nil_all (by kernel_rfl)) (nil_all (by kernel_rfl)) (fun p hp => by cases hp)
noncomputable def arith_Text_enc (r : S29 × Int) : AV UU := .pv (.tup [.typ (.s29 r.1), .int .i64 r.2])
noncomputable def arith_Text_dec (v : AV UU) (_ : List (List (AV UU))) : Option (S29 × Int) :=
asT v fun q1 =>
popA q1 fun p2 q3 =>
as_s29 (.pv p2) fun r0 =>
popA q3 fun p4 q5 =>
asI .i64 (.pv p4) fun r1 =>
popN q5 <|
some (r0, r1)
theorem arith_Text_dec_enc (v : AV UU) (b : List (List (AV UU))) (r : S29 × Int) (h : arith_Text_dec v b = some r) : v = arith_Text_enc r := by
  unfold arith_Text_dec at h
  replace h := asT_inv h; obtain ⟨q1, rfl, h⟩ := h
  replace h := popA_inv h; obtain ⟨p2, q3, rfl, h⟩ := h
  replace h := as_s29_inv h; obtain ⟨r0, e, h⟩ := h; cases e
  replace h := popA_inv h; obtain ⟨p4, q5, rfl, h⟩ := h
  replace h := asI_inv h; obtain ⟨r1, e, h⟩ := h; cases e
  replace h := popN_inv h; obtain ⟨rfl, h⟩ := h
  cases h
  rfl
theorem arith_Text_eq (k : Nat) (v0 : S29) : bodyK UX (arith_Text_cfg k) (arith_Text_G k) Tryd.f66 [.pv (.typ (.s29 v0))] [] arith_Text_dec = arith_Text k v0 := by kernel_rfl
theorem arith_Text_con (k : Nat) (v0 : S29) (r : S29 × Int) (h : arith_Text k v0 = some r) : Con (X := UX) Tryd.prog 66 [.pv (.typ (.s29 v0))] [] (arith_Text_enc r) [] :=
  con_of_body xok tok Tryd.func66 arith_Text_body (arith_Text_gok k) rfl (arith_Text_cok k) (of_decide_eq_true (by kernel_rfl)) arith_Text_dec_enc ((arith_Text_eq k v0).trans h)
noncomputable def arith_Text_an {ρ : Type} (k : Nat) : An UX ρ := fun args bx K =>
popA args fun v1 a2 =>
as_s29 v1 fun v0 =>
popN a2 <|
popN bx <|
(arith_Text k v0).bind fun r => K (arith_Text_enc r) []
theorem arith_Text_ok {ρ : Type} (k : Nat) : AnsOK Tryd.prog 66 (arith_Text_an (ρ := ρ) k) := by
  intro args bx K r h
  unfold arith_Text_an at h
  replace h := popA_inv h; obtain ⟨v1, a2, rfl, h⟩ := h
  replace h := as_s29_inv h; obtain ⟨v0, rfl, h⟩ := h
  replace h := popN_inv h; obtain ⟨rfl, h⟩ := h
  replace h := popN_inv h; obtain ⟨rfl, h⟩ := h
  replace h := bind_inv h
  obtain ⟨x, hx, h⟩ := h
  exact ⟨there_of Tryd.func66 (by kernel_rfl) arith_Text_body, _, _, h, arith_Text_con k v0 x hx⟩

/-! cadastre/arith.Length -/
noncomputable def arith_Length_code : Code := match Tryd.f56.body with | some c => c | none => .skip
theorem arith_Length_body : Tryd.f56.body = some arith_Length_code := by kernel_rfl
noncomputable def arith_Length_G {ρ : Type} (k : Nat) : Ans UX ρ := gk 66 (arith_Text_an k) (gk 65 (value_Int_an k) (gnil))
theorem arith_Length_gok {ρ : Type} (k : Nat) : GOK Tryd.prog (arith_Length_G (ρ := ρ) k) := gok_cons (arith_Text_ok k) (gok_cons (value_Int_ok k) (gok_nil))
noncomputable def arith_Length_cfg {ρ : Type} (k : Nat) : Cfg UX ρ where
  live i := (assoc [(0, [0]), (1, [1, 2]), (2, [2, 4, 5]), (3, [2, 5]), (4, [2, 4])] i).getD []
  boxes i := (assoc [(0, []), (1, [1, 2]), (2, [2, 4]), (3, [2]), (4, [2, 4])] i).getD []
  tk i := (assoc [] i).getD []
  n := 24
  labelR l := (assoc [] l).getD 0
  loops := assoc []
  labels := assoc []
  joins := assoc []
  xl i e := match e with
    | .nxt => assoc [] i
    | .ret => assoc [] i
    | .exit j => (assoc [] i).bind fun l => assoc l j
    | .goto j => (assoc [] i).bind fun l => assoc l j
noncomputable def arith_Length_L : List Code := selI [] (loopsOf arith_Length_code)
noncomputable def arith_Length_J : List Code := selI [] (joinsOf arith_Length_code)
noncomputable def arith_Length_S : List Code := scopesOf arith_Length_code
theorem arith_Length_cok {ρ : Type} (k : Nat) : COK (arith_Length_cfg (ρ := ρ) k) (arith_Length_G k) arith_Length_code :=
  cok_of (tl := []) (tj := []) (tb := []) rfl rfl rfl (nil_all (by kernel_rfl)) (nil_all (by kernel_rfl)) (fun p hp => by cases hp)
noncomputable def arith_Length_enc (r : S29 × Int) : AV UU := .pv (.tup [.typ (.s29 r.1), .int .i64 r.2])
noncomputable def arith_Length_dec (v : AV UU) (_ : List (List (AV UU))) : Option (S29 × Int) :=
asT v fun q1 =>
popA q1 fun p2 q3 =>
as_s29 (.pv p2) fun r0 =>
popA q3 fun p4 q5 =>
asI .i64 (.pv p4) fun r1 =>
popN q5 <|
some (r0, r1)
theorem arith_Length_dec_enc (v : AV UU) (b : List (List (AV UU))) (r : S29 × Int) (h : arith_Length_dec v b = some r) : v = arith_Length_enc r := by
  unfold arith_Length_dec at h
  replace h := asT_inv h; obtain ⟨q1, rfl, h⟩ := h
  replace h := popA_inv h; obtain ⟨p2, q3, rfl, h⟩ := h
  replace h := as_s29_inv h; obtain ⟨r0, e, h⟩ := h; cases e
  replace h := popA_inv h; obtain ⟨p4, q5, rfl, h⟩ := h
  replace h := asI_inv h; obtain ⟨r1, e, h⟩ := h; cases e
  replace h := popN_inv h; obtain ⟨rfl, h⟩ := h
  cases h
  rfl
theorem arith_Length_eq (k : Nat) (v0 : S29) : bodyK UX (arith_Length_cfg k) (arith_Length_G k) Tryd.f56 [.pv (.typ (.s29 v0))] [] arith_Length_dec = arith_Length k v0 := by kernel_rfl
theorem arith_Length_con (k : Nat) (v0 : S29) (r : S29 × Int) (h : arith_Length k v0 = some r) : Con (X := UX) Tryd.prog 56 [.pv (.typ (.s29 v0))] [] (arith_Length_enc r) [] :=
  con_of_body xok tok Tryd.func56 arith_Length_body (arith_Length_gok k) rfl (arith_Length_cok k) (of_decide_eq_true (by kernel_rfl)) arith_Length_dec_enc ((arith_Length_eq k v0).trans h)
noncomputable def arith_Length_an {ρ : Type} (k : Nat) : An UX ρ := fun args bx K =>
popA args fun v1 a2 =>
as_s29 v1 fun v0 =>
popN a2 <|
popN bx <|
(arith_Length k v0).bind fun r => K (arith_Length_enc r) []
theorem arith_Length_ok {ρ : Type} (k : Nat) : AnsOK Tryd.prog 56 (arith_Length_an (ρ := ρ) k) := by
  intro args bx K r h
  unfold arith_Length_an at h
  replace h := popA_inv h; obtain ⟨v1, a2, rfl, h⟩ := h
  replace h := as_s29_inv h; obtain ⟨v0, rfl, h⟩ := h
  replace h := popN_inv h; obtain ⟨rfl, h⟩ := h
  replace h := popN_inv h; obtain ⟨rfl, h⟩ := h
  replace h := bind_inv h
  obtain ⟨x, hx, h⟩ := h
  exact ⟨there_of Tryd.func56 (by kernel_rfl) arith_Length_body, _, _, h, arith_Length_con k v0 x hx⟩

/-! cadastre/arith.Typeof -/
noncomputable def arith_Typeof_code : Code := match Tryd.f57.body with | some c => c | none => .skip
theorem arith_Typeof_body : Tryd.f57.body = some arith_Typeof_code := by kernel_rfl
noncomputable def arith_Typeof_G {ρ : Type} (k : Nat) : Ans UX ρ := gk 40 (value_Good_an k) (gk 67 (value_Text_an k) (gnil))
theorem arith_Typeof_gok {ρ : Type} (k : Nat) : GOK Tryd.prog (arith_Typeof_G (ρ := ρ) k) := gok_cons (value_Good_ok k) (gok_cons (value_Text_ok k) (gok_nil))
noncomputable def arith_Typeof_cfg {ρ : Type} (k : Nat) : Cfg UX ρ where
  live i := (assoc [(0, [0]), (1, [1, 2]), (2, [2]), (3, [1, 2])] i).getD []
  boxes i := (assoc [(0, []), (1, [1, 2]), (2, [2]), (3, [1, 2])] i).getD []
  tk i := (assoc [] i).getD []
  n := 14
  labelR l := (assoc [] l).getD 0
  loops := assoc []
  labels := assoc []
  joins := assoc []
  xl i e := match e with
    | .nxt => assoc [] i
    | .ret => assoc [] i
    | .exit j => (assoc [] i).bind fun l => assoc l j
    | .goto j => (assoc [] i).bind fun l => assoc l j
noncomputable def arith_Typeof_L : List Code := selI [] (loopsOf arith_Typeof_code)
noncomputable def arith_Typeof_J : List Code := selI [] (joinsOf arith_Typeof_code)
noncomputable def arith_Typeof_S : List Code := scopesOf arith_Typeof_code
theorem arith_Typeof_cok {ρ : Type} (k : Nat) : COK (arith_Typeof_cfg (ρ := ρ) k) (arith_Typeof_G k) arith_Typeof_code :=
  cok_of (tl := []) (tj := []) (tb := []) rfl rfl rfl (nil_all (by kernel_rfl)) (nil_all (by kernel_rfl)) (fun p hp => by cases hp)
noncomputable def arith_Typeof_enc (r : S29 × Int) : AV UU := .pv (.tup [.typ (.s29 r.1), .int .i64 r.2])
noncomputable def arith_Typeof_dec (v : AV UU) (_ : List (List (AV UU))) : Option (S29 × Int) :=
asT v fun q1 =>
popA q1 fun p2 q3 =>
as_s29 (.pv p2) fun r0 =>
popA q3 fun p4 q5 =>
asI .i64 (.pv p4) fun r1 =>
popN q5 <|
some (r0, r1)
theorem arith_Typeof_dec_enc (v : AV UU) (b : List (List (AV UU))) (r : S29 × Int) (h : arith_Typeof_dec v b = some r) : v = arith_Typeof_enc r := by
  unfold arith_Typeof_dec at h
  replace h := asT_inv h; obtain ⟨q1, rfl, h⟩ := h
  replace h := popA_inv h; obtain ⟨p2, q3, rfl, h⟩ := h
  replace h := as_s29_inv h; obtain ⟨r0, e, h⟩ := h; cases e
  replace h := popA_inv h; obtain ⟨p4, q5, rfl, h⟩ := h
  replace h := asI_inv h; obtain ⟨r1, e, h⟩ := h; cases e
  replace h := popN_inv h; obtain ⟨rfl, h⟩ := h
  cases h
  rfl
theorem arith_Typeof_eq (k : Nat) (v0 : S29) : bodyK UX (arith_Typeof_cfg k) (arith_Typeof_G k) Tryd.f57 [.pv (.typ (.s29 v0))] [] arith_Typeof_dec = arith_Typeof k v0 := by kernel_rfl
theorem arith_Typeof_con (k : Nat) (v0 : S29) (r : S29 × Int) (h : arith_Typeof k v0 = some r) : Con (X := UX) Tryd.prog 57 [.pv (.typ (.s29 v0))] [] (arith_Typeof_enc r) [] :=
  con_of_body xok tok Tryd.func57 arith_Typeof_body (arith_Typeof_gok k) rfl (arith_Typeof_cok k) (of_decide_eq_true (by kernel_rfl)) arith_Typeof_dec_enc ((arith_Typeof_eq k v0).trans h)
noncomputable def arith_Typeof_an {ρ : Type} (k : Nat) : An UX ρ := fun args bx K =>
popA args fun v1 a2 =>
as_s29 v1 fun v0 =>
popN a2 <|
popN bx <|
(arith_Typeof k v0).bind fun r => K (arith_Typeof_enc r) []
theorem arith_Typeof_ok {ρ : Type} (k : Nat) : AnsOK Tryd.prog 57 (arith_Typeof_an (ρ := ρ) k) := by
  intro args bx K r h
  unfold arith_Typeof_an at h
  replace h := popA_inv h; obtain ⟨v1, a2, rfl, h⟩ := h
  replace h := as_s29_inv h; obtain ⟨v0, rfl, h⟩ := h
  replace h := popN_inv h; obtain ⟨rfl, h⟩ := h
  replace h := popN_inv h; obtain ⟨rfl, h⟩ := h
  replace h := bind_inv h
  obtain ⟨x, hx, h⟩ := h
  exact ⟨there_of Tryd.func57 (by kernel_rfl) arith_Typeof_body, _, _, h, arith_Typeof_con k v0 x hx⟩

/-! cadastre/logic.said -/
noncomputable def logic_said_code : Code := match Tryd.f68.body with | some c => c | none => .skip
theorem logic_said_body : Tryd.f68.body = some logic_said_code := by kernel_rfl
noncomputable def logic_said_G {ρ : Type} (k : Nat) : Ans UX ρ := gk 54 (logic_answer_an k) (gnil)
theorem logic_said_gok {ρ : Type} (k : Nat) : GOK Tryd.prog (logic_said_G (ρ := ρ) k) := gok_cons (logic_answer_ok k) (gok_nil)
noncomputable def logic_said_cfg {ρ : Type} (k : Nat) : Cfg UX ρ where
  live i := (assoc [(0, [0]), (1, [0, 2]), (2, [2]), (3, [2])] i).getD []
  boxes i := (assoc [(0, []), (1, [2]), (2, [2]), (3, [2])] i).getD []
  tk i := (assoc [] i).getD []
  n := 6
  labelR l := (assoc [] l).getD 0
  loops := assoc []
  labels := assoc []
  joins := assoc []
  xl i e := match e with
    | .nxt => assoc [] i
    | .ret => assoc [] i
    | .exit j => (assoc [] i).bind fun l => assoc l j
    | .goto j => (assoc [] i).bind fun l => assoc l j
noncomputable def logic_said_L : List Code := selI [] (loopsOf logic_said_code)
noncomputable def logic_said_J : List Code := selI [] (joinsOf logic_said_code)
noncomputable def logic_said_S : List Code := scopesOf logic_said_code
theorem logic_said_cok {ρ : Type} (k : Nat) : COK (logic_said_cfg (ρ := ρ) k) (logic_said_G k) logic_said_code :=
  cok_of (tl := []) (tj := []) (tb := []) rfl rfl rfl (nil_all (by kernel_rfl)) (nil_all (by kernel_rfl)) (fun p hp => by cases hp)
noncomputable def logic_said_enc (r : S29) : AV UU := .pv (.typ (.s29 r))
noncomputable def logic_said_dec (v : AV UU) (_ : List (List (AV UU))) : Option S29 :=
as_s29 v fun r0 =>
some r0
theorem logic_said_dec_enc (v : AV UU) (b : List (List (AV UU))) (r : S29) (h : logic_said_dec v b = some r) : v = logic_said_enc r := by
  unfold logic_said_dec at h
  replace h := as_s29_inv h; obtain ⟨r0, rfl, h⟩ := h
  cases h
  rfl
theorem logic_said_eq (k : Nat) (so0 : Bool) : bodyK UX (logic_said_cfg k) (logic_said_G k) Tryd.f68 [.pv (.bool so0)] [] logic_said_dec = logic_said k so0 := by kernel_rfl
theorem logic_said_con (k : Nat) (so0 : Bool) (r : S29) (h : logic_said k so0 = some r) : Con (X := UX) Tryd.prog 68 [.pv (.bool so0)] [] (logic_said_enc r) [] :=
  con_of_body xok tok Tryd.func68 logic_said_body (logic_said_gok k) rfl (logic_said_cok k) (of_decide_eq_true (by kernel_rfl)) logic_said_dec_enc ((logic_said_eq k so0).trans h)
noncomputable def logic_said_an {ρ : Type} (k : Nat) : An UX ρ := fun args bx K =>
popA args fun v1 a2 =>
asB v1 fun so0 =>
popN a2 <|
popN bx <|
(logic_said k so0).bind fun r => K (logic_said_enc r) []
theorem logic_said_ok {ρ : Type} (k : Nat) : AnsOK Tryd.prog 68 (logic_said_an (ρ := ρ) k) := by
  intro args bx K r h
  unfold logic_said_an at h
  replace h := popA_inv h; obtain ⟨v1, a2, rfl, h⟩ := h
  replace h := asB_inv h; obtain ⟨so0, rfl, h⟩ := h
  replace h := popN_inv h; obtain ⟨rfl, h⟩ := h
  replace h := popN_inv h; obtain ⟨rfl, h⟩ := h
  replace h := bind_inv h
  obtain ⟨x, hx, h⟩ := h
  exact ⟨there_of Tryd.func68 (by kernel_rfl) logic_said_body, _, _, h, logic_said_con k so0 x hx⟩

/-! cadastre/logic.Null -/
noncomputable def logic_Null_code : Code := match Tryd.f58.body with | some c => c | none => .skip
theorem logic_Null_body : Tryd.f58.body = some logic_Null_code := by kernel_rfl
noncomputable def logic_Null_G {ρ : Type} (k : Nat) : Ans UX ρ := gk 40 (value_Good_an k) (gk 68 (logic_said_an k) (gnil))
theorem logic_Null_gok {ρ : Type} (k : Nat) : GOK Tryd.prog (logic_Null_G (ρ := ρ) k) := gok_cons (value_Good_ok k) (gok_cons (logic_said_ok k) (gok_nil))
noncomputable def logic_Null_cfg {ρ : Type} (k : Nat) : Cfg UX ρ where
  live i := (assoc [(0, [0, 1]), (1, [0, 3, 4]), (2, [4]), (3, [0, 3, 4])] i).getD []
  boxes i := (assoc [(0, []), (1, [3, 4]), (2, [4]), (3, [3, 4])] i).getD []
  tk i := (assoc [] i).getD []
  n := 25
  labelR l := (assoc [] l).getD 0
  loops := assoc []
  labels := assoc []
  joins := assoc []
  xl i e := match e with
    | .nxt => assoc [] i
    | .ret => assoc [] i
    | .exit j => (assoc [] i).bind fun l => assoc l j
    | .goto j => (assoc [] i).bind fun l => assoc l j
noncomputable def logic_Null_L : List Code := selI [] (loopsOf logic_Null_code)
noncomputable def logic_Null_J : List Code := selI [] (joinsOf logic_Null_code)
noncomputable def logic_Null_S : List Code := scopesOf logic_Null_code
theorem logic_Null_cok {ρ : Type} (k : Nat) : COK (logic_Null_cfg (ρ := ρ) k) (logic_Null_G k) logic_Null_code :=
  cok_of (tl := []) (tj := []) (tb := []) rfl rfl rfl (nil_all (by kernel_rfl)) (nil_all (by kernel_rfl)) (fun p hp => by cases hp)
noncomputable def logic_Null_enc (r : S29 × Int) : AV UU := .pv (.tup [.typ (.s29 r.1), .int .i64 r.2])
noncomputable def logic_Null_dec (v : AV UU) (_ : List (List (AV UU))) : Option (S29 × Int) :=
asT v fun q1 =>
popA q1 fun p2 q3 =>
as_s29 (.pv p2) fun r0 =>
popA q3 fun p4 q5 =>
asI .i64 (.pv p4) fun r1 =>
popN q5 <|
some (r0, r1)
theorem logic_Null_dec_enc (v : AV UU) (b : List (List (AV UU))) (r : S29 × Int) (h : logic_Null_dec v b = some r) : v = logic_Null_enc r := by
  unfold logic_Null_dec at h
  replace h := asT_inv h; obtain ⟨q1, rfl, h⟩ := h
  replace h := popA_inv h; obtain ⟨p2, q3, rfl, h⟩ := h
  replace h := as_s29_inv h; obtain ⟨r0, e, h⟩ := h; cases e
  replace h := popA_inv h; obtain ⟨p4, q5, rfl, h⟩ := h
  replace h := asI_inv h; obtain ⟨r1, e, h⟩ := h; cases e
  replace h := popN_inv h; obtain ⟨rfl, h⟩ := h
  cases h
  rfl
theorem logic_Null_eq (k : Nat) (op0 : Int) (v1 : S29) : bodyK UX (logic_Null_cfg k) (logic_Null_G k) Tryd.f58 [.pv (.int .i64 op0), .pv (.typ (.s29 v1))] [] logic_Null_dec = logic_Null k op0 v1 := by kernel_rfl
theorem logic_Null_con (k : Nat) (op0 : Int) (v1 : S29) (r : S29 × Int) (h : logic_Null k op0 v1 = some r) : Con (X := UX) Tryd.prog 58 [.pv (.int .i64 op0), .pv (.typ (.s29 v1))] [] (logic_Null_enc r) [] :=
  con_of_body xok tok Tryd.func58 logic_Null_body (logic_Null_gok k) rfl (logic_Null_cok k) (of_decide_eq_true (by kernel_rfl)) logic_Null_dec_enc ((logic_Null_eq k op0 v1).trans h)
noncomputable def logic_Null_an {ρ : Type} (k : Nat) : An UX ρ := fun args bx K =>
popA args fun v1 a2 =>
asI .i64 v1 fun op0 =>
popA a2 fun v3 a4 =>
as_s29 v3 fun v1 =>
popN a4 <|
popN bx <|
(logic_Null k op0 v1).bind fun r => K (logic_Null_enc r) []
theorem logic_Null_ok {ρ : Type} (k : Nat) : AnsOK Tryd.prog 58 (logic_Null_an (ρ := ρ) k) := by
  intro args bx K r h
  unfold logic_Null_an at h
  replace h := popA_inv h; obtain ⟨v1, a2, rfl, h⟩ := h
  replace h := asI_inv h; obtain ⟨op0, rfl, h⟩ := h
  replace h := popA_inv h; obtain ⟨v3, a4, rfl, h⟩ := h
  replace h := as_s29_inv h; obtain ⟨v1, rfl, h⟩ := h
  replace h := popN_inv h; obtain ⟨rfl, h⟩ := h
  replace h := popN_inv h; obtain ⟨rfl, h⟩ := h
  replace h := bind_inv h
  obtain ⟨x, hx, h⟩ := h
  exact ⟨there_of Tryd.func58 (by kernel_rfl) logic_Null_body, _, _, h, logic_Null_con k op0 v1 x hx⟩

/-! cadastre/eval.Un -/
noncomputable def eval_Un_code : Code := match Tryd.f43.body with | some c => c | none => .skip
theorem eval_Un_body : Tryd.f43.body = some eval_Un_code := by kernel_rfl
noncomputable def eval_Un_G {ρ : Type} (k : Nat) : Ans UX ρ := gk 55 (arith_Neg_an k) (gk 41 (logic_Not_an k) (gk 56 (arith_Length_an k) (gk 57 (arith_Typeof_an k) (gk 58 (logic_Null_an k) (gnil)))))
theorem eval_Un_gok {ρ : Type} (k : Nat) : GOK Tryd.prog (eval_Un_G (ρ := ρ) k) := gok_cons (arith_Neg_ok k) (gok_cons (logic_Not_ok k) (gok_cons (arith_Length_ok k) (gok_cons (arith_Typeof_ok k) (gok_cons (logic_Null_ok k) (gok_nil)))))
noncomputable def eval_Un_cfg {ρ : Type} (k : Nat) : Cfg UX ρ where
  live i := (assoc [(0, [0, 1]), (1, [0, 3, 4]), (2, [0, 3, 4, 6]), (3, [3, 4]), (4, [0, 3, 4, 6]), (5, [3, 4]), (6, [0, 3, 4, 6]), (7, [3, 4]), (8, [0, 3, 4, 6]), (9, [3, 4]), (10, [0, 3, 4])] i).getD []
  boxes i := (assoc [(0, []), (1, [3, 4]), (2, [3, 4]), (3, [3, 4]), (4, [3, 4]), (5, [3, 4]), (6, [3, 4]), (7, [3, 4]), (8, [3, 4]), (9, [3, 4]), (10, [3, 4])] i).getD []
  tk i := (assoc [] i).getD []
  n := 36
  labelR l := (assoc [] l).getD 0
  loops := assoc []
  labels := assoc []
  joins := assoc []
  xl i e := match e with
    | .nxt => assoc [] i
    | .ret => assoc [] i
    | .exit j => (assoc [] i).bind fun l => assoc l j
    | .goto j => (assoc [] i).bind fun l => assoc l j
noncomputable def eval_Un_L : List Code := selI [] (loopsOf eval_Un_code)
noncomputable def eval_Un_J : List Code := selI [] (joinsOf eval_Un_code)
noncomputable def eval_Un_S : List Code := scopesOf eval_Un_code
theorem eval_Un_cok {ρ : Type} (k : Nat) : COK (eval_Un_cfg (ρ := ρ) k) (eval_Un_G k) eval_Un_code :=
  cok_of (tl := []) (tj := []) (tb := []) rfl rfl rfl (nil_all (by kernel_rfl)) (nil_all (by kernel_rfl)) (fun p hp => by cases hp)
noncomputable def eval_Un_enc (r : S29 × Int) : AV UU := .pv (.tup [.typ (.s29 r.1), .int .i64 r.2])
noncomputable def eval_Un_dec (v : AV UU) (_ : List (List (AV UU))) : Option (S29 × Int) :=
asT v fun q1 =>
popA q1 fun p2 q3 =>
as_s29 (.pv p2) fun r0 =>
popA q3 fun p4 q5 =>
asI .i64 (.pv p4) fun r1 =>
popN q5 <|
some (r0, r1)
theorem eval_Un_dec_enc (v : AV UU) (b : List (List (AV UU))) (r : S29 × Int) (h : eval_Un_dec v b = some r) : v = eval_Un_enc r := by
  unfold eval_Un_dec at h
  replace h := asT_inv h; obtain ⟨q1, rfl, h⟩ := h
  replace h := popA_inv h; obtain ⟨p2, q3, rfl, h⟩ := h
  replace h := as_s29_inv h; obtain ⟨r0, e, h⟩ := h; cases e
  replace h := popA_inv h; obtain ⟨p4, q5, rfl, h⟩ := h
  replace h := asI_inv h; obtain ⟨r1, e, h⟩ := h; cases e
  replace h := popN_inv h; obtain ⟨rfl, h⟩ := h
  cases h
  rfl
theorem eval_Un_eq (k : Nat) (op0 : Int) (v1 : S29) : bodyK UX (eval_Un_cfg k) (eval_Un_G k) Tryd.f43 [.pv (.int .i64 op0), .pv (.typ (.s29 v1))] [] eval_Un_dec = eval_Un k op0 v1 := by kernel_rfl
theorem eval_Un_con (k : Nat) (op0 : Int) (v1 : S29) (r : S29 × Int) (h : eval_Un k op0 v1 = some r) : Con (X := UX) Tryd.prog 43 [.pv (.int .i64 op0), .pv (.typ (.s29 v1))] [] (eval_Un_enc r) [] :=
  con_of_body xok tok Tryd.func43 eval_Un_body (eval_Un_gok k) rfl (eval_Un_cok k) (of_decide_eq_true (by kernel_rfl)) eval_Un_dec_enc ((eval_Un_eq k op0 v1).trans h)
noncomputable def eval_Un_an {ρ : Type} (k : Nat) : An UX ρ := fun args bx K =>
popA args fun v1 a2 =>
asI .i64 v1 fun op0 =>
popA a2 fun v3 a4 =>
as_s29 v3 fun v1 =>
popN a4 <|
popN bx <|
(eval_Un k op0 v1).bind fun r => K (eval_Un_enc r) []
theorem eval_Un_ok {ρ : Type} (k : Nat) : AnsOK Tryd.prog 43 (eval_Un_an (ρ := ρ) k) := by
  intro args bx K r h
  unfold eval_Un_an at h
  replace h := popA_inv h; obtain ⟨v1, a2, rfl, h⟩ := h
  replace h := asI_inv h; obtain ⟨op0, rfl, h⟩ := h
  replace h := popA_inv h; obtain ⟨v3, a4, rfl, h⟩ := h
  replace h := as_s29_inv h; obtain ⟨v1, rfl, h⟩ := h
  replace h := popN_inv h; obtain ⟨rfl, h⟩ := h
  replace h := popN_inv h; obtain ⟨rfl, h⟩ := h
  replace h := bind_inv h
  obtain ⟨x, hx, h⟩ := h
  exact ⟨there_of Tryd.func43 (by kernel_rfl) eval_Un_body, _, _, h, eval_Un_con k op0 v1 x hx⟩

/-! cadastre/arith.Concat -/
noncomputable def arith_Concat_code : Code := match Tryd.f59.body with | some c => c | none => .skip
theorem arith_Concat_body : Tryd.f59.body = some arith_Concat_code := by kernel_rfl
noncomputable def arith_Concat_G {ρ : Type} (k : Nat) : Ans UX ρ := gk 22 (value_All_an k) (gk 66 (arith_Text_an k) (gk 67 (value_Text_an k) (gnil)))
theorem arith_Concat_gok {ρ : Type} (k : Nat) : GOK Tryd.prog (arith_Concat_G (ρ := ρ) k) := gok_cons (value_All_ok k) (gok_cons (arith_Text_ok k) (gok_cons (value_Text_ok k) (gok_nil)))
noncomputable def arith_Concat_j5_s {ρ : Type} (k : Nat) : Run UX ρ := fun s K =>
popS 2 s.env fun v1 e2 =>
asP 2 0 v1 <|
popS 3 e2 fun v3 e4 =>
asP 3 0 v3 <|
popS 4 e4 fun v5 e6 =>
asP 4 0 v5 <|
popN e6 <|
popB 2 s.hp fun c7 e8 =>
popA c7 fun v9 c10 =>
asI .i64 v9 fun z11 =>
popA c10 fun v12 c13 =>
asI .i64 v12 fun z14 =>
popA c13 fun v15 c16 =>
asS v15 fun z17 =>
popN c16 <|
popB 3 e8 fun c18 e19 =>
popA c18 fun v20 c21 =>
asI .i64 v20 fun z22 =>
popA c21 fun v23 c24 =>
asI .i64 v23 fun z25 =>
popA c24 fun v26 c27 =>
asS v26 fun z28 =>
popN c27 <|
popB 4 e19 fun c29 e30 =>
popA c29 fun v31 c32 =>
asI .i64 v31 fun z33 =>
popA c32 fun v34 c35 =>
asI .i64 v34 fun z36 =>
popA c35 fun v37 c38 =>
asS v37 fun z39 =>
popN c38 <|
popN e30 <|
arith_Concat_j5 k (fun t5 t4 => K .ret ⟨[(4, .ptr 4 0), (5, .pv (.int .i64 t5))], [(4, [.pv (.int .i64 t4.f0), .pv (.int .i64 t4.f1), .pv (.str t4.f2)])]⟩) (fun a2 b3 t4 => K .nxt ⟨[(2, .ptr 2 0), (3, .ptr 3 0), (4, .ptr 4 0)], [(2, [.pv (.int .i64 a2.f0), .pv (.int .i64 a2.f1), .pv (.str a2.f2)]), (3, [.pv (.int .i64 b3.f0), .pv (.int .i64 b3.f1), .pv (.str b3.f2)]), (4, [.pv (.int .i64 t4.f0), .pv (.int .i64 t4.f1), .pv (.str t4.f2)])]⟩) (⟨z11, z14, z17⟩ : S29) (⟨z22, z25, z28⟩ : S29) (⟨z33, z36, z39⟩ : S29)
noncomputable def arith_Concat_j7_s {ρ : Type} (k : Nat) : Run UX ρ := fun s K =>
popS 2 s.env fun v1 e2 =>
asP 2 0 v1 <|
popS 3 e2 fun v3 e4 =>
asP 3 0 v3 <|
popS 4 e4 fun v5 e6 =>
asP 4 0 v5 <|
popN e6 <|
popB 2 s.hp fun c7 e8 =>
popA c7 fun v9 c10 =>
asI .i64 v9 fun z11 =>
popA c10 fun v12 c13 =>
asI .i64 v12 fun z14 =>
popA c13 fun v15 c16 =>
asS v15 fun z17 =>
popN c16 <|
popB 3 e8 fun c18 e19 =>
popA c18 fun v20 c21 =>
asI .i64 v20 fun z22 =>
popA c21 fun v23 c24 =>
asI .i64 v23 fun z25 =>
popA c24 fun v26 c27 =>
asS v26 fun z28 =>
popN c27 <|
popB 4 e19 fun c29 e30 =>
popA c29 fun v31 c32 =>
asI .i64 v31 fun z33 =>
popA c32 fun v34 c35 =>
asI .i64 v34 fun z36 =>
popA c35 fun v37 c38 =>
asS v37 fun z39 =>
popN c38 <|
popN e30 <|
arith_Concat_j7 k (fun t5 t4 => K .ret ⟨[(4, .ptr 4 0), (5, .pv (.int .i64 t5))], [(4, [.pv (.int .i64 t4.f0), .pv (.int .i64 t4.f1), .pv (.str t4.f2)])]⟩) (⟨z11, z14, z17⟩ : S29) (⟨z22, z25, z28⟩ : S29) (⟨z33, z36, z39⟩ : S29)
noncomputable def arith_Concat_cfg {ρ : Type} (k : Nat) : Cfg UX ρ where
  live i := (assoc [(0, [0, 1]), (1, [2, 3, 4]), (2, [4]), (3, [2, 3, 4]), (4, [4]), (5, [2, 3, 4]), (6, [4]), (7, [2, 3, 4]), (8, [3, 4, 6]), (9, [4, 6, 8]), (10, [4]), (11, [4, 6, 8])] i).getD []
  boxes i := (assoc [(0, []), (1, [2, 3, 4]), (2, [4]), (3, [2, 3, 4]), (4, [4]), (5, [2, 3, 4]), (6, [4]), (7, [2, 3, 4]), (8, [3, 4, 6]), (9, [4, 6, 8]), (10, [4]), (11, [4, 6, 8])] i).getD []
  tk i := (assoc [] i).getD []
  n := 62
  labelR l := (assoc [] l).getD 0
  loops := assoc []
  labels := assoc []
  joins := assoc [(5, arith_Concat_j5_s k), (7, arith_Concat_j7_s k)]
  xl i e := match e with
    | .nxt => assoc [(5, ([2, 3, 4], [2, 3, 4]))] i
    | .ret => assoc [(5, ([4, 5], [4])), (7, ([4, 5], [4]))] i
    | .exit j => (assoc [] i).bind fun l => assoc l j
    | .goto j => (assoc [] i).bind fun l => assoc l j
noncomputable def arith_Concat_L : List Code := selI [] (loopsOf arith_Concat_code)
noncomputable def arith_Concat_J : List Code := selI [5, 7] (joinsOf arith_Concat_code)
noncomputable def arith_Concat_S : List Code := scopesOf arith_Concat_code
theorem arith_Concat_j7_eq0 {ρ : Type} (k : Nat) (K : Ex → St UU → Option ρ) (a2 : S29) (b3 : S29) (t4 : S29) : exec UX (arith_Concat_cfg k) (arith_Concat_G k) (arith_Concat_J.getD 0 .skip) ⟨[(2, .ptr 2 0), (3, .ptr 3 0), (4, .ptr 4 0)], [(2, [.pv (.int .i64 a2.f0), .pv (.int .i64 a2.f1), .pv (.str a2.f2)]), (3, [.pv (.int .i64 b3.f0), .pv (.int .i64 b3.f1), .pv (.str b3.f2)]), (4, [.pv (.int .i64 t4.f0), .pv (.int .i64 t4.f1), .pv (.str t4.f2)])]⟩ (nrmK UX (arith_Concat_cfg k) 7 K) = arith_Concat_j7 k (fun t5 t4 => K .ret ⟨[(4, .ptr 4 0), (5, .pv (.int .i64 t5))], [(4, [.pv (.int .i64 t4.f0), .pv (.int .i64 t4.f1), .pv (.str t4.f2)])]⟩) a2 b3 t4 := by kernel_rfl
theorem arith_Concat_j7_ok0 {ρ : Type} (k : Nat) : JoinOK UX (arith_Concat_cfg (ρ := ρ) k) (arith_Concat_G k) (arith_Concat_J.getD 0 .skip) 7 (arith_Concat_j7_s k) := by
  intro s K r h
  obtain ⟨env, hp⟩ := s
  unfold arith_Concat_j7_s at h
  replace h := popS_inv h; obtain ⟨v1, e2, rfl, h⟩ := h
  replace h := asP_inv h; obtain ⟨rfl, h⟩ := h
  replace h := popS_inv h; obtain ⟨v3, e4, rfl, h⟩ := h
  replace h := asP_inv h; obtain ⟨rfl, h⟩ := h
  replace h := popS_inv h; obtain ⟨v5, e6, rfl, h⟩ := h
  replace h := asP_inv h; obtain ⟨rfl, h⟩ := h
  replace h := popN_inv h; obtain ⟨rfl, h⟩ := h
  replace h := popB_inv h; obtain ⟨c7, e8, rfl, h⟩ := h
  replace h := popA_inv h; obtain ⟨v9, c10, rfl, h⟩ := h
  replace h := asI_inv h; obtain ⟨z11, rfl, h⟩ := h
  replace h := popA_inv h; obtain ⟨v12, c13, rfl, h⟩ := h
  replace h := asI_inv h; obtain ⟨z14, rfl, h⟩ := h
  replace h := popA_inv h; obtain ⟨v15, c16, rfl, h⟩ := h
  replace h := asS_inv h; obtain ⟨z17, rfl, h⟩ := h
  replace h := popN_inv h; obtain ⟨rfl, h⟩ := h
  replace h := popB_inv h; obtain ⟨c18, e19, rfl, h⟩ := h
  replace h := popA_inv h; obtain ⟨v20, c21, rfl, h⟩ := h
  replace h := asI_inv h; obtain ⟨z22, rfl, h⟩ := h
  replace h := popA_inv h; obtain ⟨v23, c24, rfl, h⟩ := h
  replace h := asI_inv h; obtain ⟨z25, rfl, h⟩ := h
  replace h := popA_inv h; obtain ⟨v26, c27, rfl, h⟩ := h
  replace h := asS_inv h; obtain ⟨z28, rfl, h⟩ := h
  replace h := popN_inv h; obtain ⟨rfl, h⟩ := h
  replace h := popB_inv h; obtain ⟨c29, e30, rfl, h⟩ := h
  replace h := popA_inv h; obtain ⟨v31, c32, rfl, h⟩ := h
  replace h := asI_inv h; obtain ⟨z33, rfl, h⟩ := h
  replace h := popA_inv h; obtain ⟨v34, c35, rfl, h⟩ := h
  replace h := asI_inv h; obtain ⟨z36, rfl, h⟩ := h
  replace h := popA_inv h; obtain ⟨v37, c38, rfl, h⟩ := h
  replace h := asS_inv h; obtain ⟨z39, rfl, h⟩ := h
  replace h := popN_inv h; obtain ⟨rfl, h⟩ := h
  replace h := popN_inv h; obtain ⟨rfl, h⟩ := h
  exact (arith_Concat_j7_eq0 k K (⟨z11, z14, z17⟩ : S29) (⟨z22, z25, z28⟩ : S29) (⟨z33, z36, z39⟩ : S29)).trans h
theorem arith_Concat_j5_eq1 {ρ : Type} (k : Nat) (K : Ex → St UU → Option ρ) (a2 : S29) (b3 : S29) (t4 : S29) : exec UX (arith_Concat_cfg k) (arith_Concat_G k) (arith_Concat_J.getD 1 .skip) ⟨[(2, .ptr 2 0), (3, .ptr 3 0), (4, .ptr 4 0)], [(2, [.pv (.int .i64 a2.f0), .pv (.int .i64 a2.f1), .pv (.str a2.f2)]), (3, [.pv (.int .i64 b3.f0), .pv (.int .i64 b3.f1), .pv (.str b3.f2)]), (4, [.pv (.int .i64 t4.f0), .pv (.int .i64 t4.f1), .pv (.str t4.f2)])]⟩ (nrmK UX (arith_Concat_cfg k) 5 K) = arith_Concat_j5 k (fun t5 t4 => K .ret ⟨[(4, .ptr 4 0), (5, .pv (.int .i64 t5))], [(4, [.pv (.int .i64 t4.f0), .pv (.int .i64 t4.f1), .pv (.str t4.f2)])]⟩) (fun a2 b3 t4 => K .nxt ⟨[(2, .ptr 2 0), (3, .ptr 3 0), (4, .ptr 4 0)], [(2, [.pv (.int .i64 a2.f0), .pv (.int .i64 a2.f1), .pv (.str a2.f2)]), (3, [.pv (.int .i64 b3.f0), .pv (.int .i64 b3.f1), .pv (.str b3.f2)]), (4, [.pv (.int .i64 t4.f0), .pv (.int .i64 t4.f1), .pv (.str t4.f2)])]⟩) a2 b3 t4 := by kernel_rfl
theorem arith_Concat_j5_ok1 {ρ : Type} (k : Nat) : JoinOK UX (arith_Concat_cfg (ρ := ρ) k) (arith_Concat_G k) (arith_Concat_J.getD 1 .skip) 5 (arith_Concat_j5_s k) := by
  intro s K r h
  obtain ⟨env, hp⟩ := s
  unfold arith_Concat_j5_s at h
  replace h := popS_inv h; obtain ⟨v1, e2, rfl, h⟩ := h
  replace h := asP_inv h; obtain ⟨rfl, h⟩ := h
  replace h := popS_inv h; obtain ⟨v3, e4, rfl, h⟩ := h
  replace h := asP_inv h; obtain ⟨rfl, h⟩ := h
  replace h := popS_inv h; obtain ⟨v5, e6, rfl, h⟩ := h
  replace h := asP_inv h; obtain ⟨rfl, h⟩ := h
  replace h := popN_inv h; obtain ⟨rfl, h⟩ := h
  replace h := popB_inv h; obtain ⟨c7, e8, rfl, h⟩ := h
  replace h := popA_inv h; obtain ⟨v9, c10, rfl, h⟩ := h
  replace h := asI_inv h; obtain ⟨z11, rfl, h⟩ := h
  replace h := popA_inv h; obtain ⟨v12, c13, rfl, h⟩ := h
  replace h := asI_inv h; obtain ⟨z14, rfl, h⟩ := h
  replace h := popA_inv h; obtain ⟨v15, c16, rfl, h⟩ := h
  replace h := asS_inv h; obtain ⟨z17, rfl, h⟩ := h
  replace h := popN_inv h; obtain ⟨rfl, h⟩ := h
  replace h := popB_inv h; obtain ⟨c18, e19, rfl, h⟩ := h
  replace h := popA_inv h; obtain ⟨v20, c21, rfl, h⟩ := h
  replace h := asI_inv h; obtain ⟨z22, rfl, h⟩ := h
  replace h := popA_inv h; obtain ⟨v23, c24, rfl, h⟩ := h
  replace h := asI_inv h; obtain ⟨z25, rfl, h⟩ := h
  replace h := popA_inv h; obtain ⟨v26, c27, rfl, h⟩ := h
  replace h := asS_inv h; obtain ⟨z28, rfl, h⟩ := h
  replace h := popN_inv h; obtain ⟨rfl, h⟩ := h
  replace h := popB_inv h; obtain ⟨c29, e30, rfl, h⟩ := h
  replace h := popA_inv h; obtain ⟨v31, c32, rfl, h⟩ := h
  replace h := asI_inv h; obtain ⟨z33, rfl, h⟩ := h
  replace h := popA_inv h; obtain ⟨v34, c35, rfl, h⟩ := h
  replace h := asI_inv h; obtain ⟨z36, rfl, h⟩ := h
  replace h := popA_inv h; obtain ⟨v37, c38, rfl, h⟩ := h
  replace h := asS_inv h; obtain ⟨z39, rfl, h⟩ := h
  replace h := popN_inv h; obtain ⟨rfl, h⟩ := h
  replace h := popN_inv h; obtain ⟨rfl, h⟩ := h
  exact (arith_Concat_j5_eq1 k K (⟨z11, z14, z17⟩ : S29) (⟨z22, z25, z28⟩ : S29) (⟨z33, z36, z39⟩ : S29)).trans h
theorem arith_Concat_cok {ρ : Type} (k : Nat) : COK (arith_Concat_cfg (ρ := ρ) k) (arith_Concat_G k) arith_Concat_code :=
  cok_of (tl := []) (tj := [(5, arith_Concat_j5_s k), (7, arith_Concat_j7_s k)]) (tb := []) rfl rfl rfl (nil_all (by kernel_rfl)) (all_nth 2 (by kernel_rfl) ⟨join_case (by kernel_rfl) rfl (arith_Concat_j5_ok1 k), join_case (by kernel_rfl) rfl (arith_Concat_j7_ok0 k), trivial⟩) (fun p hp => by cases hp)
noncomputable def arith_Concat_enc (r : S29 × Int) : AV UU := .pv (.tup [.typ (.s29 r.1), .int .i64 r.2])
noncomputable def arith_Concat_dec (v : AV UU) (_ : List (List (AV UU))) : Option (S29 × Int) :=
asT v fun q1 =>
popA q1 fun p2 q3 =>
as_s29 (.pv p2) fun r0 =>
popA q3 fun p4 q5 =>
asI .i64 (.pv p4) fun r1 =>
popN q5 <|
some (r0, r1)
theorem arith_Concat_dec_enc (v : AV UU) (b : List (List (AV UU))) (r : S29 × Int) (h : arith_Concat_dec v b = some r) : v = arith_Concat_enc r := by
  unfold arith_Concat_dec at h
  replace h := asT_inv h; obtain ⟨q1, rfl, h⟩ := h
  replace h := popA_inv h; obtain ⟨p2, q3, rfl, h⟩ := h
  replace h := as_s29_inv h; obtain ⟨r0, e, h⟩ := h; cases e
  replace h := popA_inv h; obtain ⟨p4, q5, rfl, h⟩ := h
  replace h := asI_inv h; obtain ⟨r1, e, h⟩ := h; cases e
  replace h := popN_inv h; obtain ⟨rfl, h⟩ := h
  cases h
  rfl
theorem arith_Concat_eq (k : Nat) (a0 : S29) (b1 : S29) : bodyK UX (arith_Concat_cfg k) (arith_Concat_G k) Tryd.f59 [.pv (.typ (.s29 a0)), .pv (.typ (.s29 b1))] [] arith_Concat_dec = arith_Concat k a0 b1 := by kernel_rfl
theorem arith_Concat_con (k : Nat) (a0 : S29) (b1 : S29) (r : S29 × Int) (h : arith_Concat k a0 b1 = some r) : Con (X := UX) Tryd.prog 59 [.pv (.typ (.s29 a0)), .pv (.typ (.s29 b1))] [] (arith_Concat_enc r) [] :=
  con_of_body xok tok Tryd.func59 arith_Concat_body (arith_Concat_gok k) rfl (arith_Concat_cok k) (of_decide_eq_true (by kernel_rfl)) arith_Concat_dec_enc ((arith_Concat_eq k a0 b1).trans h)
noncomputable def arith_Concat_an {ρ : Type} (k : Nat) : An UX ρ := fun args bx K =>
popA args fun v1 a2 =>
as_s29 v1 fun a0 =>
popA a2 fun v3 a4 =>
as_s29 v3 fun b1 =>
popN a4 <|
popN bx <|
(arith_Concat k a0 b1).bind fun r => K (arith_Concat_enc r) []
theorem arith_Concat_ok {ρ : Type} (k : Nat) : AnsOK Tryd.prog 59 (arith_Concat_an (ρ := ρ) k) := by
  intro args bx K r h
  unfold arith_Concat_an at h
  replace h := popA_inv h; obtain ⟨v1, a2, rfl, h⟩ := h
  replace h := as_s29_inv h; obtain ⟨a0, rfl, h⟩ := h
  replace h := popA_inv h; obtain ⟨v3, a4, rfl, h⟩ := h
  replace h := as_s29_inv h; obtain ⟨b1, rfl, h⟩ := h
  replace h := popN_inv h; obtain ⟨rfl, h⟩ := h
  replace h := popN_inv h; obtain ⟨rfl, h⟩ := h
  replace h := bind_inv h
  obtain ⟨x, hx, h⟩ := h
  exact ⟨there_of Tryd.func59 (by kernel_rfl) arith_Concat_body, _, _, h, arith_Concat_con k a0 b1 x hx⟩

/-! cadastre/arith.reckon -/
noncomputable def arith_reckon_code : Code := match Tryd.f69.body with | some c => c | none => .skip
theorem arith_reckon_body : Tryd.f69.body = some arith_reckon_code := by kernel_rfl
noncomputable def arith_reckon_G {ρ : Type} (k : Nat) : Ans UX ρ := gnil
theorem arith_reckon_gok {ρ : Type} (k : Nat) : GOK Tryd.prog (arith_reckon_G (ρ := ρ) k) := gok_nil
noncomputable def arith_reckon_j18_s {ρ : Type} (k : Nat) : Run UX ρ := fun s K =>
popS 6 s.env fun v1 e2 =>
asI .i64 v1 fun n6 =>
popN e2 <|
popN s.hp <|
arith_reckon_j18 k (fun n6 e7 => K .ret ⟨[(6, .pv (.int .i64 n6)), (7, .pv (.int .i64 e7))], []⟩) n6
noncomputable def arith_reckon_j13_s {ρ : Type} (k : Nat) : Run UX ρ := fun s K =>
popS 1 s.env fun v1 e2 =>
asI .i64 v1 fun a1 =>
popS 2 e2 fun v3 e4 =>
asI .i64 v3 fun b2 =>
popN e4 <|
popN s.hp <|
arith_reckon_j13 k (K (.goto 0) ⟨[], []⟩) (fun n6 => K .nxt ⟨[(6, .pv (.int .i64 n6))], []⟩) a1 b2
noncomputable def arith_reckon_cfg {ρ : Type} (k : Nat) : Cfg UX ρ where
  live i := (assoc [(0, [0, 1, 2]), (1, [0, 1, 2, 6]), (2, [1, 2, 6]), (3, [1, 2]), (4, [1, 2, 6, 8]), (5, [1, 2]), (6, [1, 2]), (7, [1, 2, 6, 8]), (8, [1, 2]), (9, [1, 2]), (10, [1, 2, 6, 8]), (11, [1, 2]), (12, []), (13, [1, 2]), (14, [1, 2, 6]), (15, [1, 2, 6, 8]), (16, [1, 2]), (17, [1, 2]), (18, [6]), (19, [])] i).getD []
  boxes i := (assoc [(0, []), (1, []), (2, []), (3, []), (4, []), (5, []), (6, []), (7, []), (8, []), (9, []), (10, []), (11, []), (12, []), (13, []), (14, []), (15, []), (16, []), (17, []), (18, []), (19, [])] i).getD []
  tk i := (assoc [] i).getD []
  n := 104
  labelR l := (assoc [] l).getD 0
  loops := assoc []
  labels := assoc []
  joins := assoc [(18, arith_reckon_j18_s k), (13, arith_reckon_j13_s k)]
  xl i e := match e with
    | .nxt => assoc [(13, ([6], []))] i
    | .ret => assoc [(18, ([6, 7], []))] i
    | .exit j => (assoc [] i).bind fun l => assoc l j
    | .goto j => (assoc [(13, [(0, ([], []))])] i).bind fun l => assoc l j
noncomputable def arith_reckon_L : List Code := selI [] (loopsOf arith_reckon_code)
noncomputable def arith_reckon_J : List Code := selI [18, 13] (joinsOf arith_reckon_code)
noncomputable def arith_reckon_S : List Code := scopesOf arith_reckon_code
theorem arith_reckon_j18_eq0 {ρ : Type} (k : Nat) (K : Ex → St UU → Option ρ) (n6 : Int) : exec UX (arith_reckon_cfg k) (arith_reckon_G k) (arith_reckon_J.getD 0 .skip) ⟨[(6, .pv (.int .i64 n6))], []⟩ (nrmK UX (arith_reckon_cfg k) 18 K) = arith_reckon_j18 k (fun n6 e7 => K .ret ⟨[(6, .pv (.int .i64 n6)), (7, .pv (.int .i64 e7))], []⟩) n6 := by kernel_rfl
theorem arith_reckon_j18_ok0 {ρ : Type} (k : Nat) : JoinOK UX (arith_reckon_cfg (ρ := ρ) k) (arith_reckon_G k) (arith_reckon_J.getD 0 .skip) 18 (arith_reckon_j18_s k) := by
  intro s K r h
  obtain ⟨env, hp⟩ := s
  unfold arith_reckon_j18_s at h
  replace h := popS_inv h; obtain ⟨v1, e2, rfl, h⟩ := h
  replace h := asI_inv h; obtain ⟨n6, rfl, h⟩ := h
  replace h := popN_inv h; obtain ⟨rfl, h⟩ := h
  replace h := popN_inv h; obtain ⟨rfl, h⟩ := h
  exact (arith_reckon_j18_eq0 k K n6).trans h
theorem arith_reckon_j13_eq1 {ρ : Type} (k : Nat) (K : Ex → St UU → Option ρ) (a1 : Int) (b2 : Int) : exec UX (arith_reckon_cfg k) (arith_reckon_G k) (arith_reckon_J.getD 1 .skip) ⟨[(1, .pv (.int .i64 a1)), (2, .pv (.int .i64 b2))], []⟩ (nrmK UX (arith_reckon_cfg k) 13 K) = arith_reckon_j13 k (K (.goto 0) ⟨[], []⟩) (fun n6 => K .nxt ⟨[(6, .pv (.int .i64 n6))], []⟩) a1 b2 := by kernel_rfl
theorem arith_reckon_j13_ok1 {ρ : Type} (k : Nat) : JoinOK UX (arith_reckon_cfg (ρ := ρ) k) (arith_reckon_G k) (arith_reckon_J.getD 1 .skip) 13 (arith_reckon_j13_s k) := by
  intro s K r h
  obtain ⟨env, hp⟩ := s
  unfold arith_reckon_j13_s at h
  replace h := popS_inv h; obtain ⟨v1, e2, rfl, h⟩ := h
  replace h := asI_inv h; obtain ⟨a1, rfl, h⟩ := h
  replace h := popS_inv h; obtain ⟨v3, e4, rfl, h⟩ := h
  replace h := asI_inv h; obtain ⟨b2, rfl, h⟩ := h
  replace h := popN_inv h; obtain ⟨rfl, h⟩ := h
  replace h := popN_inv h; obtain ⟨rfl, h⟩ := h
  exact (arith_reckon_j13_eq1 k K a1 b2).trans h
theorem arith_reckon_cok {ρ : Type} (k : Nat) : COK (arith_reckon_cfg (ρ := ρ) k) (arith_reckon_G k) arith_reckon_code :=
  cok_of (tl := []) (tj := [(18, arith_reckon_j18_s k), (13, arith_reckon_j13_s k)]) (tb := []) rfl rfl rfl (nil_all (by kernel_rfl)) (all_nth 2 (by kernel_rfl) ⟨join_case (by kernel_rfl) rfl (arith_reckon_j13_ok1 k), join_case (by kernel_rfl) rfl (arith_reckon_j18_ok0 k), trivial⟩) (fun p hp => by cases hp)
noncomputable def arith_reckon_enc (r : Int × Int) : AV UU := .pv (.tup [.int .i64 r.1, .int .i64 r.2])
noncomputable def arith_reckon_dec (v : AV UU) (_ : List (List (AV UU))) : Option (Int × Int) :=
asT v fun q1 =>
popA q1 fun p2 q3 =>
asI .i64 (.pv p2) fun r0 =>
popA q3 fun p4 q5 =>
asI .i64 (.pv p4) fun r1 =>
popN q5 <|
some (r0, r1)
theorem arith_reckon_dec_enc (v : AV UU) (b : List (List (AV UU))) (r : Int × Int) (h : arith_reckon_dec v b = some r) : v = arith_reckon_enc r := by
  unfold arith_reckon_dec at h
  replace h := asT_inv h; obtain ⟨q1, rfl, h⟩ := h
  replace h := popA_inv h; obtain ⟨p2, q3, rfl, h⟩ := h
  replace h := asI_inv h; obtain ⟨r0, e, h⟩ := h; cases e
  replace h := popA_inv h; obtain ⟨p4, q5, rfl, h⟩ := h
  replace h := asI_inv h; obtain ⟨r1, e, h⟩ := h; cases e
  replace h := popN_inv h; obtain ⟨rfl, h⟩ := h
  cases h
  rfl
theorem arith_reckon_eq (k : Nat) (op0 : Int) (a1 : Int) (b2 : Int) : bodyK UX (arith_reckon_cfg k) (arith_reckon_G k) Tryd.f69 [.pv (.int .i64 op0), .pv (.int .i64 a1), .pv (.int .i64 b2)] [] arith_reckon_dec = arith_reckon k op0 a1 b2 := by kernel_rfl
theorem arith_reckon_con (k : Nat) (op0 : Int) (a1 : Int) (b2 : Int) (r : Int × Int) (h : arith_reckon k op0 a1 b2 = some r) : Con (X := UX) Tryd.prog 69 [.pv (.int .i64 op0), .pv (.int .i64 a1), .pv (.int .i64 b2)] [] (arith_reckon_enc r) [] :=
  con_of_body xok tok Tryd.func69 arith_reckon_body (arith_reckon_gok k) rfl (arith_reckon_cok k) (of_decide_eq_true (by kernel_rfl)) arith_reckon_dec_enc ((arith_reckon_eq k op0 a1 b2).trans h)
noncomputable def arith_reckon_an {ρ : Type} (k : Nat) : An UX ρ := fun args bx K =>
popA args fun v1 a2 =>
asI .i64 v1 fun op0 =>
popA a2 fun v3 a4 =>
asI .i64 v3 fun a1 =>
popA a4 fun v5 a6 =>
asI .i64 v5 fun b2 =>
popN a6 <|
popN bx <|
(arith_reckon k op0 a1 b2).bind fun r => K (arith_reckon_enc r) []
theorem arith_reckon_ok {ρ : Type} (k : Nat) : AnsOK Tryd.prog 69 (arith_reckon_an (ρ := ρ) k) := by
  intro args bx K r h
  unfold arith_reckon_an at h
  replace h := popA_inv h; obtain ⟨v1, a2, rfl, h⟩ := h
  replace h := asI_inv h; obtain ⟨op0, rfl, h⟩ := h
  replace h := popA_inv h; obtain ⟨v3, a4, rfl, h⟩ := h
  replace h := asI_inv h; obtain ⟨a1, rfl, h⟩ := h
  replace h := popA_inv h; obtain ⟨v5, a6, rfl, h⟩ := h
  replace h := asI_inv h; obtain ⟨b2, rfl, h⟩ := h
  replace h := popN_inv h; obtain ⟨rfl, h⟩ := h
  replace h := popN_inv h; obtain ⟨rfl, h⟩ := h
  replace h := bind_inv h
  obtain ⟨x, hx, h⟩ := h
  exact ⟨there_of Tryd.func69 (by kernel_rfl) arith_reckon_body, _, _, h, arith_reckon_con k op0 a1 b2 x hx⟩
end Go.Proofs.YtjkgphpmdkbpfaaDoor.V
