/-
  What the program's functions answer: the printed functions' answers.
-/
import Derived.Test.YtdfmfpbdggefpaaDoorDG1
namespace Go.Proofs.YtdfmfpbdggefpaaDoor.D
open Go Go.AX
/-! cadastre/value.Good -/
noncomputable def value_Good_code : Code := match Tryd.f31.body with | some c => c | none => .skip
theorem value_Good_body : Tryd.f31.body = some value_Good_code := by kernel_rfl
noncomputable def value_Good_G {ρ : Type} (k : Nat) : Ans UX ρ := gnil
theorem value_Good_gok {ρ : Type} (k : Nat) : GOK Tryd.prog (value_Good_G (ρ := ρ) k) := gok_nil
noncomputable def value_Good_j8_s {ρ : Type} (k : Nat) : Run UX ρ := fun s K =>
popS 1 s.env fun v1 e2 =>
asP 1 0 v1 <|
popN e2 <|
popB 1 s.hp fun c3 e4 =>
popA c3 fun v5 c6 =>
asI .i64 v5 fun z7 =>
popA c6 fun v8 c9 =>
asI .i64 v8 fun z10 =>
popA c9 fun v11 c12 =>
asS v11 fun z13 =>
popN c12 <|
popN e4 <|
value_Good_j8 k (fun t2 => K .ret ⟨[(2, .pv (.bool t2))], []⟩) (⟨z7, z10, z13⟩ : S23)
noncomputable def value_Good_cfg {ρ : Type} (k : Nat) : Cfg UX ρ where
  live i := (assoc [(0, [0]), (1, [1]), (2, [1, 4]), (3, [1]), (4, [1, 4]), (5, [1]), (6, [1, 4]), (7, [1, 4]), (8, [1]), (9, [])] i).getD []
  boxes i := (assoc [(0, []), (1, [1]), (2, [1]), (3, [1]), (4, [1]), (5, [1]), (6, [1]), (7, [1]), (8, [1]), (9, [])] i).getD []
  tk i := (assoc [] i).getD []
  n := 27
  labelR l := (assoc [] l).getD 0
  loops := assoc []
  labels := assoc []
  joins := assoc [(8, value_Good_j8_s k)]
  xl i e := match e with
    | .nxt => assoc [] i
    | .ret => assoc [(8, ([2], []))] i
    | .exit j => (assoc [] i).bind fun l => assoc l j
    | .goto j => (assoc [] i).bind fun l => assoc l j
noncomputable def value_Good_L : List Code := selI [] (loopsOf value_Good_code)
noncomputable def value_Good_J : List Code := selI [8] (joinsOf value_Good_code)
noncomputable def value_Good_S : List Code := scopesOf value_Good_code
theorem value_Good_j8_eq0 {ρ : Type} (k : Nat) (K : Ex → St UU → Option ρ) (v1 : S23) : exec UX (value_Good_cfg k) (value_Good_G k) (value_Good_J.getD 0 .skip) ⟨[(1, .ptr 1 0)], [(1, [.pv (.int .i64 v1.f0), .pv (.int .i64 v1.f1), .pv (.str v1.f2)])]⟩ (nrmK UX (value_Good_cfg k) 8 K) = value_Good_j8 k (fun t2 => K .ret ⟨[(2, .pv (.bool t2))], []⟩) v1 := by kernel_rfl
theorem value_Good_j8_ok0 {ρ : Type} (k : Nat) : JoinOK UX (value_Good_cfg (ρ := ρ) k) (value_Good_G k) (value_Good_J.getD 0 .skip) 8 (value_Good_j8_s k) := by
  intro s K r h
  obtain ⟨env, hp⟩ := s
  unfold value_Good_j8_s at h
  replace h := popS_inv h; obtain ⟨v1, e2, rfl, h⟩ := h
  replace h := asP_inv h; obtain ⟨rfl, h⟩ := h
  replace h := popN_inv h; obtain ⟨rfl, h⟩ := h
  replace h := popB_inv h; obtain ⟨c3, e4, rfl, h⟩ := h
  replace h := popA_inv h; obtain ⟨v5, c6, rfl, h⟩ := h
  replace h := asI_inv h; obtain ⟨z7, rfl, h⟩ := h
  replace h := popA_inv h; obtain ⟨v8, c9, rfl, h⟩ := h
  replace h := asI_inv h; obtain ⟨z10, rfl, h⟩ := h
  replace h := popA_inv h; obtain ⟨v11, c12, rfl, h⟩ := h
  replace h := asS_inv h; obtain ⟨z13, rfl, h⟩ := h
  replace h := popN_inv h; obtain ⟨rfl, h⟩ := h
  replace h := popN_inv h; obtain ⟨rfl, h⟩ := h
  exact (value_Good_j8_eq0 k K (⟨z7, z10, z13⟩ : S23)).trans h
theorem value_Good_cok {ρ : Type} (k : Nat) : COK (value_Good_cfg (ρ := ρ) k) (value_Good_G k) value_Good_code :=
  cok_of (tl := []) (tj := [(8, value_Good_j8_s k)]) (tb := []) rfl rfl rfl (nil_all (by kernel_rfl)) (all_nth 1 (by kernel_rfl) ⟨join_case (by kernel_rfl) rfl (value_Good_j8_ok0 k), trivial⟩) (fun p hp => by cases hp)
noncomputable def value_Good_enc (r : Bool) : AV UU := .pv (.bool r)
noncomputable def value_Good_dec (v : AV UU) (_ : List (List (AV UU))) : Option Bool :=
asB v fun r0 =>
some r0
theorem value_Good_dec_enc (v : AV UU) (b : List (List (AV UU))) (r : Bool) (h : value_Good_dec v b = some r) : v = value_Good_enc r := by
  unfold value_Good_dec at h
  replace h := asB_inv h; obtain ⟨r0, rfl, h⟩ := h
  cases h
  rfl
theorem value_Good_eq (k : Nat) (v0 : S23) : bodyK UX (value_Good_cfg k) (value_Good_G k) Tryd.f31 [.pv (.typ (.s23 v0))] [] value_Good_dec = value_Good k v0 := by kernel_rfl
theorem value_Good_con (k : Nat) (v0 : S23) (r : Bool) (h : value_Good k v0 = some r) : Con (X := UX) Tryd.prog 31 [.pv (.typ (.s23 v0))] [] (value_Good_enc r) [] :=
  con_of_body xok tok Tryd.func31 value_Good_body (value_Good_gok k) rfl (value_Good_cok k) (of_decide_eq_true (by kernel_rfl)) value_Good_dec_enc ((value_Good_eq k v0).trans h)
noncomputable def value_Good_an {ρ : Type} (k : Nat) : An UX ρ := fun args bx K =>
popA args fun v1 a2 =>
as_s23 v1 fun v0 =>
popN a2 <|
popN bx <|
(value_Good k v0).bind fun r => K (value_Good_enc r) []
theorem value_Good_ok {ρ : Type} (k : Nat) : AnsOK Tryd.prog 31 (value_Good_an (ρ := ρ) k) := by
  intro args bx K r h
  unfold value_Good_an at h
  replace h := popA_inv h; obtain ⟨v1, a2, rfl, h⟩ := h
  replace h := as_s23_inv h; obtain ⟨v0, rfl, h⟩ := h
  replace h := popN_inv h; obtain ⟨rfl, h⟩ := h
  replace h := popN_inv h; obtain ⟨rfl, h⟩ := h
  replace h := bind_inv h
  obtain ⟨x, hx, h⟩ := h
  exact ⟨there_of Tryd.func31 (by kernel_rfl) value_Good_body, _, _, h, value_Good_con k v0 x hx⟩

/-! cadastre/value.Type -/
noncomputable def value_Type_code : Code := match Tryd.f32.body with | some c => c | none => .skip
theorem value_Type_body : Tryd.f32.body = some value_Type_code := by kernel_rfl
noncomputable def value_Type_G {ρ : Type} (k : Nat) : Ans UX ρ := gnil
theorem value_Type_gok {ρ : Type} (k : Nat) : GOK Tryd.prog (value_Type_G (ρ := ρ) k) := gok_nil
noncomputable def value_Type_cfg {ρ : Type} (k : Nat) : Cfg UX ρ where
  live i := (assoc [(0, [0]), (1, [0])] i).getD []
  boxes i := (assoc [(0, []), (1, [])] i).getD []
  tk i := (assoc [] i).getD []
  n := 9
  labelR l := (assoc [] l).getD 0
  loops := assoc []
  labels := assoc []
  joins := assoc []
  xl i e := match e with
    | .nxt => assoc [] i
    | .ret => assoc [] i
    | .exit j => (assoc [] i).bind fun l => assoc l j
    | .goto j => (assoc [] i).bind fun l => assoc l j
noncomputable def value_Type_L : List Code := selI [] (loopsOf value_Type_code)
noncomputable def value_Type_J : List Code := selI [] (joinsOf value_Type_code)
noncomputable def value_Type_S : List Code := scopesOf value_Type_code
theorem value_Type_cok {ρ : Type} (k : Nat) : COK (value_Type_cfg (ρ := ρ) k) (value_Type_G k) value_Type_code :=
  cok_of (tl := []) (tj := []) (tb := []) rfl rfl rfl (nil_all (by kernel_rfl)) (nil_all (by kernel_rfl)) (fun p hp => by cases hp)
noncomputable def value_Type_enc (r : Bool) : AV UU := .pv (.bool r)
noncomputable def value_Type_dec (v : AV UU) (_ : List (List (AV UU))) : Option Bool :=
asB v fun r0 =>
some r0
theorem value_Type_dec_enc (v : AV UU) (b : List (List (AV UU))) (r : Bool) (h : value_Type_dec v b = some r) : v = value_Type_enc r := by
  unfold value_Type_dec at h
  replace h := asB_inv h; obtain ⟨r0, rfl, h⟩ := h
  cases h
  rfl
theorem value_Type_eq (k : Nat) (t0 : Int) : bodyK UX (value_Type_cfg k) (value_Type_G k) Tryd.f32 [.pv (.int .i64 t0)] [] value_Type_dec = value_Type k t0 := by kernel_rfl
theorem value_Type_con (k : Nat) (t0 : Int) (r : Bool) (h : value_Type k t0 = some r) : Con (X := UX) Tryd.prog 32 [.pv (.int .i64 t0)] [] (value_Type_enc r) [] :=
  con_of_body xok tok Tryd.func32 value_Type_body (value_Type_gok k) rfl (value_Type_cok k) (of_decide_eq_true (by kernel_rfl)) value_Type_dec_enc ((value_Type_eq k t0).trans h)
noncomputable def value_Type_an {ρ : Type} (k : Nat) : An UX ρ := fun args bx K =>
popA args fun v1 a2 =>
asI .i64 v1 fun t0 =>
popN a2 <|
popN bx <|
(value_Type k t0).bind fun r => K (value_Type_enc r) []
theorem value_Type_ok {ρ : Type} (k : Nat) : AnsOK Tryd.prog 32 (value_Type_an (ρ := ρ) k) := by
  intro args bx K r h
  unfold value_Type_an at h
  replace h := popA_inv h; obtain ⟨v1, a2, rfl, h⟩ := h
  replace h := asI_inv h; obtain ⟨t0, rfl, h⟩ := h
  replace h := popN_inv h; obtain ⟨rfl, h⟩ := h
  replace h := popN_inv h; obtain ⟨rfl, h⟩ := h
  replace h := bind_inv h
  obtain ⟨x, hx, h⟩ := h
  exact ⟨there_of Tryd.func32 (by kernel_rfl) value_Type_body, _, _, h, value_Type_con k t0 x hx⟩

/-! cadastre/value.Int -/
noncomputable def value_Int_code : Code := match Tryd.f38.body with | some c => c | none => .skip
theorem value_Int_body : Tryd.f38.body = some value_Int_code := by kernel_rfl
noncomputable def value_Int_G {ρ : Type} (k : Nat) : Ans UX ρ := gnil
theorem value_Int_gok {ρ : Type} (k : Nat) : GOK Tryd.prog (value_Int_G (ρ := ρ) k) := gok_nil
noncomputable def value_Int_cfg {ρ : Type} (k : Nat) : Cfg UX ρ where
  live i := (assoc [(0, [0]), (1, [0, 2])] i).getD []
  boxes i := (assoc [(0, []), (1, [2])] i).getD []
  tk i := (assoc [] i).getD []
  n := 5
  labelR l := (assoc [] l).getD 0
  loops := assoc []
  labels := assoc []
  joins := assoc []
  xl i e := match e with
    | .nxt => assoc [] i
    | .ret => assoc [] i
    | .exit j => (assoc [] i).bind fun l => assoc l j
    | .goto j => (assoc [] i).bind fun l => assoc l j
noncomputable def value_Int_L : List Code := selI [] (loopsOf value_Int_code)
noncomputable def value_Int_J : List Code := selI [] (joinsOf value_Int_code)
noncomputable def value_Int_S : List Code := scopesOf value_Int_code
theorem value_Int_cok {ρ : Type} (k : Nat) : COK (value_Int_cfg (ρ := ρ) k) (value_Int_G k) value_Int_code :=
  cok_of (tl := []) (tj := []) (tb := []) rfl rfl rfl (nil_all (by kernel_rfl)) (nil_all (by kernel_rfl)) (fun p hp => by cases hp)
noncomputable def value_Int_enc (r : S23) : AV UU := .pv (.typ (.s23 r))
noncomputable def value_Int_dec (v : AV UU) (_ : List (List (AV UU))) : Option S23 :=
as_s23 v fun r0 =>
some r0
theorem value_Int_dec_enc (v : AV UU) (b : List (List (AV UU))) (r : S23) (h : value_Int_dec v b = some r) : v = value_Int_enc r := by
  unfold value_Int_dec at h
  replace h := as_s23_inv h; obtain ⟨r0, rfl, h⟩ := h
  cases h
  rfl
theorem value_Int_eq (k : Nat) (n0 : Int) : bodyK UX (value_Int_cfg k) (value_Int_G k) Tryd.f38 [.pv (.int .i64 n0)] [] value_Int_dec = value_Int k n0 := by kernel_rfl
theorem value_Int_con (k : Nat) (n0 : Int) (r : S23) (h : value_Int k n0 = some r) : Con (X := UX) Tryd.prog 38 [.pv (.int .i64 n0)] [] (value_Int_enc r) [] :=
  con_of_body xok tok Tryd.func38 value_Int_body (value_Int_gok k) rfl (value_Int_cok k) (of_decide_eq_true (by kernel_rfl)) value_Int_dec_enc ((value_Int_eq k n0).trans h)
noncomputable def value_Int_an {ρ : Type} (k : Nat) : An UX ρ := fun args bx K =>
popA args fun v1 a2 =>
asI .i64 v1 fun n0 =>
popN a2 <|
popN bx <|
(value_Int k n0).bind fun r => K (value_Int_enc r) []
theorem value_Int_ok {ρ : Type} (k : Nat) : AnsOK Tryd.prog 38 (value_Int_an (ρ := ρ) k) := by
  intro args bx K r h
  unfold value_Int_an at h
  replace h := popA_inv h; obtain ⟨v1, a2, rfl, h⟩ := h
  replace h := asI_inv h; obtain ⟨n0, rfl, h⟩ := h
  replace h := popN_inv h; obtain ⟨rfl, h⟩ := h
  replace h := popN_inv h; obtain ⟨rfl, h⟩ := h
  replace h := bind_inv h
  obtain ⟨x, hx, h⟩ := h
  exact ⟨there_of Tryd.func38 (by kernel_rfl) value_Int_body, _, _, h, value_Int_con k n0 x hx⟩

/-! cadastre/cast.number -/
noncomputable def cast_number_code : Code := match Tryd.f33.body with | some c => c | none => .skip
theorem cast_number_body : Tryd.f33.body = some cast_number_code := by kernel_rfl
noncomputable def cast_number_G {ρ : Type} (k : Nat) : Ans UX ρ := gk 8 (cast_Int_an k) (gk 38 (value_Int_an k) (gnil))
theorem cast_number_gok {ρ : Type} (k : Nat) : GOK Tryd.prog (cast_number_G (ρ := ρ) k) := gok_cons (cast_Int_ok k) (gok_cons (value_Int_ok k) (gok_nil))
noncomputable def cast_number_cfg {ρ : Type} (k : Nat) : Cfg UX ρ where
  live i := (assoc [(0, [0]), (1, [1, 2]), (2, [1, 2, 7]), (3, [1, 2]), (4, [1, 2, 7]), (5, [1, 2]), (6, [2, 4, 5]), (7, [2, 5]), (8, [2, 4]), (9, [2])] i).getD []
  boxes i := (assoc [(0, []), (1, [1, 2]), (2, [1, 2]), (3, [1, 2]), (4, [1, 2]), (5, [1, 2]), (6, [2]), (7, [2]), (8, [2]), (9, [2])] i).getD []
  tk i := (assoc [] i).getD []
  n := 26
  labelR l := (assoc [] l).getD 0
  loops := assoc []
  labels := assoc []
  joins := assoc []
  xl i e := match e with
    | .nxt => assoc [] i
    | .ret => assoc [] i
    | .exit j => (assoc [] i).bind fun l => assoc l j
    | .goto j => (assoc [] i).bind fun l => assoc l j
noncomputable def cast_number_L : List Code := selI [] (loopsOf cast_number_code)
noncomputable def cast_number_J : List Code := selI [] (joinsOf cast_number_code)
noncomputable def cast_number_S : List Code := scopesOf cast_number_code
theorem cast_number_cok {ρ : Type} (k : Nat) : COK (cast_number_cfg (ρ := ρ) k) (cast_number_G k) cast_number_code :=
  cok_of (tl := []) (tj := []) (tb := []) rfl rfl rfl (nil_all (by kernel_rfl)) (nil_all (by kernel_rfl)) (fun p hp => by cases hp)
noncomputable def cast_number_enc (r : S23 × Int) : AV UU := .pv (.tup [.typ (.s23 r.1), .int .i64 r.2])
noncomputable def cast_number_dec (v : AV UU) (_ : List (List (AV UU))) : Option (S23 × Int) :=
asT v fun q1 =>
popA q1 fun p2 q3 =>
as_s23 (.pv p2) fun r0 =>
popA q3 fun p4 q5 =>
asI .i64 (.pv p4) fun r1 =>
popN q5 <|
some (r0, r1)
theorem cast_number_dec_enc (v : AV UU) (b : List (List (AV UU))) (r : S23 × Int) (h : cast_number_dec v b = some r) : v = cast_number_enc r := by
  unfold cast_number_dec at h
  replace h := asT_inv h; obtain ⟨q1, rfl, h⟩ := h
  replace h := popA_inv h; obtain ⟨p2, q3, rfl, h⟩ := h
  replace h := as_s23_inv h; obtain ⟨r0, e, h⟩ := h; cases e
  replace h := popA_inv h; obtain ⟨p4, q5, rfl, h⟩ := h
  replace h := asI_inv h; obtain ⟨r1, e, h⟩ := h; cases e
  replace h := popN_inv h; obtain ⟨rfl, h⟩ := h
  cases h
  rfl
theorem cast_number_eq (k : Nat) (v0 : S23) : bodyK UX (cast_number_cfg k) (cast_number_G k) Tryd.f33 [.pv (.typ (.s23 v0))] [] cast_number_dec = cast_number k v0 := by kernel_rfl
theorem cast_number_con (k : Nat) (v0 : S23) (r : S23 × Int) (h : cast_number k v0 = some r) : Con (X := UX) Tryd.prog 33 [.pv (.typ (.s23 v0))] [] (cast_number_enc r) [] :=
  con_of_body xok tok Tryd.func33 cast_number_body (cast_number_gok k) rfl (cast_number_cok k) (of_decide_eq_true (by kernel_rfl)) cast_number_dec_enc ((cast_number_eq k v0).trans h)
noncomputable def cast_number_an {ρ : Type} (k : Nat) : An UX ρ := fun args bx K =>
popA args fun v1 a2 =>
as_s23 v1 fun v0 =>
popN a2 <|
popN bx <|
(cast_number k v0).bind fun r => K (cast_number_enc r) []
theorem cast_number_ok {ρ : Type} (k : Nat) : AnsOK Tryd.prog 33 (cast_number_an (ρ := ρ) k) := by
  intro args bx K r h
  unfold cast_number_an at h
  replace h := popA_inv h; obtain ⟨v1, a2, rfl, h⟩ := h
  replace h := as_s23_inv h; obtain ⟨v0, rfl, h⟩ := h
  replace h := popN_inv h; obtain ⟨rfl, h⟩ := h
  replace h := popN_inv h; obtain ⟨rfl, h⟩ := h
  replace h := bind_inv h
  obtain ⟨x, hx, h⟩ := h
  exact ⟨there_of Tryd.func33 (by kernel_rfl) cast_number_body, _, _, h, cast_number_con k v0 x hx⟩

/-! strconv.FormatInt -/
noncomputable def strconv_FormatInt_code : Code := match Tryd.f36.body with | some c => c | none => .skip
theorem strconv_FormatInt_body : Tryd.f36.body = some strconv_FormatInt_code := by kernel_rfl
noncomputable def strconv_FormatInt_enc (r : ByteArray) : AV UU := .pv (.str r)
open Go.RowKit in
set_option maxRecDepth 100000 in
set_option maxHeartbeats 1000000 in
theorem strconv_FormatInt_con (k : Nat) (c0 : Int) (c1 : Int) (r : ByteArray) (h : strconv_FormatInt k c0 c1 = some r) : Con (X := UX) Tryd.prog 36 [.pv (.int .i64 c0), .pv (.int .i64 c1)] [] (strconv_FormatInt_enc r) [] := by
  unfold strconv_FormatInt at h
  unfold chk at h
  split at h
  · rename_i hc
    obtain ⟨rfl, hb⟩ := hc
    rw [big_eq, decide_eq_true_eq] at hb
    obtain rfl := Option.some.inj h
    exact con_numNum xok.wpos fun D w hI => (Any.strconv_FormatInt_10 Tryd.lays173 c0 hb.1 hb.2 w hI.1).mono fun e w' hw => by
      obtain ⟨rfl, k, os, rfl⟩ := hw
      exact ⟨rfl, Go.Lib.below_grow _ w (Nat.le_refl _) k os⟩
  · cases h
noncomputable def strconv_FormatInt_an {ρ : Type} (k : Nat) : An UX ρ := fun args bx K =>
popA args fun v1 a2 =>
asI .i64 v1 fun c0 =>
popA a2 fun v3 a4 =>
asI .i64 v3 fun c1 =>
popN a4 <|
popN bx <|
(strconv_FormatInt k c0 c1).bind fun r => K (strconv_FormatInt_enc r) []
theorem strconv_FormatInt_ok {ρ : Type} (k : Nat) : AnsOK Tryd.prog 36 (strconv_FormatInt_an (ρ := ρ) k) := by
  intro args bx K r h
  unfold strconv_FormatInt_an at h
  replace h := popA_inv h; obtain ⟨v1, a2, rfl, h⟩ := h
  replace h := asI_inv h; obtain ⟨c0, rfl, h⟩ := h
  replace h := popA_inv h; obtain ⟨v3, a4, rfl, h⟩ := h
  replace h := asI_inv h; obtain ⟨c1, rfl, h⟩ := h
  replace h := popN_inv h; obtain ⟨rfl, h⟩ := h
  replace h := popN_inv h; obtain ⟨rfl, h⟩ := h
  replace h := bind_inv h
  obtain ⟨x, hx, h⟩ := h
  exact ⟨there_of Tryd.func36 (by kernel_rfl) strconv_FormatInt_body, _, _, h, strconv_FormatInt_con k c0 c1 x hx⟩

/-! cadastre/value.Text -/
noncomputable def value_Text_code : Code := match Tryd.f35.body with | some c => c | none => .skip
theorem value_Text_body : Tryd.f35.body = some value_Text_code := by kernel_rfl
noncomputable def value_Text_G {ρ : Type} (k : Nat) : Ans UX ρ := gnil
theorem value_Text_gok {ρ : Type} (k : Nat) : GOK Tryd.prog (value_Text_G (ρ := ρ) k) := gok_nil
noncomputable def value_Text_cfg {ρ : Type} (k : Nat) : Cfg UX ρ where
  live i := (assoc [(0, [0]), (1, [0, 2])] i).getD []
  boxes i := (assoc [(0, []), (1, [2])] i).getD []
  tk i := (assoc [] i).getD []
  n := 5
  labelR l := (assoc [] l).getD 0
  loops := assoc []
  labels := assoc []
  joins := assoc []
  xl i e := match e with
    | .nxt => assoc [] i
    | .ret => assoc [] i
    | .exit j => (assoc [] i).bind fun l => assoc l j
    | .goto j => (assoc [] i).bind fun l => assoc l j
noncomputable def value_Text_L : List Code := selI [] (loopsOf value_Text_code)
noncomputable def value_Text_J : List Code := selI [] (joinsOf value_Text_code)
noncomputable def value_Text_S : List Code := scopesOf value_Text_code
theorem value_Text_cok {ρ : Type} (k : Nat) : COK (value_Text_cfg (ρ := ρ) k) (value_Text_G k) value_Text_code :=
  cok_of (tl := []) (tj := []) (tb := []) rfl rfl rfl (nil_all (by kernel_rfl)) (nil_all (by kernel_rfl)) (fun p hp => by cases hp)
noncomputable def value_Text_enc (r : S23) : AV UU := .pv (.typ (.s23 r))
noncomputable def value_Text_dec (v : AV UU) (_ : List (List (AV UU))) : Option S23 :=
as_s23 v fun r0 =>
some r0
theorem value_Text_dec_enc (v : AV UU) (b : List (List (AV UU))) (r : S23) (h : value_Text_dec v b = some r) : v = value_Text_enc r := by
  unfold value_Text_dec at h
  replace h := as_s23_inv h; obtain ⟨r0, rfl, h⟩ := h
  cases h
  rfl
theorem value_Text_eq (k : Nat) (s0 : ByteArray) : bodyK UX (value_Text_cfg k) (value_Text_G k) Tryd.f35 [.pv (.str s0)] [] value_Text_dec = value_Text k s0 := by kernel_rfl
theorem value_Text_con (k : Nat) (s0 : ByteArray) (r : S23) (h : value_Text k s0 = some r) : Con (X := UX) Tryd.prog 35 [.pv (.str s0)] [] (value_Text_enc r) [] :=
  con_of_body xok tok Tryd.func35 value_Text_body (value_Text_gok k) rfl (value_Text_cok k) (of_decide_eq_true (by kernel_rfl)) value_Text_dec_enc ((value_Text_eq k s0).trans h)
noncomputable def value_Text_an {ρ : Type} (k : Nat) : An UX ρ := fun args bx K =>
popA args fun v1 a2 =>
asS v1 fun s0 =>
popN a2 <|
popN bx <|
(value_Text k s0).bind fun r => K (value_Text_enc r) []
theorem value_Text_ok {ρ : Type} (k : Nat) : AnsOK Tryd.prog 35 (value_Text_an (ρ := ρ) k) := by
  intro args bx K r h
  unfold value_Text_an at h
  replace h := popA_inv h; obtain ⟨v1, a2, rfl, h⟩ := h
  replace h := asS_inv h; obtain ⟨s0, rfl, h⟩ := h
  replace h := popN_inv h; obtain ⟨rfl, h⟩ := h
  replace h := popN_inv h; obtain ⟨rfl, h⟩ := h
  replace h := bind_inv h
  obtain ⟨x, hx, h⟩ := h
  exact ⟨there_of Tryd.func35 (by kernel_rfl) value_Text_body, _, _, h, value_Text_con k s0 x hx⟩

/-! cadastre/arith.Text -/
noncomputable def arith_Text_code : Code := match Tryd.f17.body with | some c => c | none => .skip
theorem arith_Text_body : Tryd.f17.body = some arith_Text_code := by kernel_rfl
noncomputable def arith_Text_G {ρ : Type} (k : Nat) : Ans UX ρ := gk 31 (value_Good_an k) (gk 36 (strconv_FormatInt_an k) (gk 35 (value_Text_an k) (gnil)))
theorem arith_Text_gok {ρ : Type} (k : Nat) : GOK Tryd.prog (arith_Text_G (ρ := ρ) k) := gok_cons (value_Good_ok k) (gok_cons (strconv_FormatInt_ok k) (gok_cons (value_Text_ok k) (gok_nil)))
noncomputable def arith_Text_cfg {ρ : Type} (k : Nat) : Cfg UX ρ where
  live i := (assoc [(0, [0]), (1, [1, 2]), (2, [2]), (3, [1, 2]), (4, [1, 2]), (5, [1, 2])] i).getD []
  boxes i := (assoc [(0, []), (1, [1, 2]), (2, [2]), (3, [1, 2]), (4, [1, 2]), (5, [1, 2])] i).getD []
  tk i := (assoc [] i).getD []
  n := 18
  labelR l := (assoc [] l).getD 0
  loops := assoc []
  labels := assoc []
  joins := assoc []
  xl i e := match e with
    | .nxt => assoc [] i
    | .ret => assoc [] i
    | .exit j => (assoc [] i).bind fun l => assoc l j
    | .goto j => (assoc [] i).bind fun l => assoc l j
noncomputable def arith_Text_L : List Code := selI [] (loopsOf arith_Text_code)
noncomputable def arith_Text_J : List Code := selI [] (joinsOf arith_Text_code)
noncomputable def arith_Text_S : List Code := scopesOf arith_Text_code
theorem arith_Text_cok {ρ : Type} (k : Nat) : COK (arith_Text_cfg (ρ := ρ) k) (arith_Text_G k) arith_Text_code :=
  cok_of (tl := []) (tj := []) (tb := []) rfl rfl rfl (nil_all (by kernel_rfl)) (nil_all (by kernel_rfl)) (fun p hp => by cases hp)
noncomputable def arith_Text_enc (r : S23 × Int) : AV UU := .pv (.tup [.typ (.s23 r.1), .int .i64 r.2])
noncomputable def arith_Text_dec (v : AV UU) (_ : List (List (AV UU))) : Option (S23 × Int) :=
asT v fun q1 =>
popA q1 fun p2 q3 =>
as_s23 (.pv p2) fun r0 =>
popA q3 fun p4 q5 =>
asI .i64 (.pv p4) fun r1 =>
popN q5 <|
some (r0, r1)
theorem arith_Text_dec_enc (v : AV UU) (b : List (List (AV UU))) (r : S23 × Int) (h : arith_Text_dec v b = some r) : v = arith_Text_enc r := by
  unfold arith_Text_dec at h
  replace h := asT_inv h; obtain ⟨q1, rfl, h⟩ := h
  replace h := popA_inv h; obtain ⟨p2, q3, rfl, h⟩ := h
  replace h := as_s23_inv h; obtain ⟨r0, e, h⟩ := h; cases e
  replace h := popA_inv h; obtain ⟨p4, q5, rfl, h⟩ := h
  replace h := asI_inv h; obtain ⟨r1, e, h⟩ := h; cases e
  replace h := popN_inv h; obtain ⟨rfl, h⟩ := h
  cases h
  rfl
theorem arith_Text_eq (k : Nat) (v0 : S23) : bodyK UX (arith_Text_cfg k) (arith_Text_G k) Tryd.f17 [.pv (.typ (.s23 v0))] [] arith_Text_dec = arith_Text k v0 := by kernel_rfl
theorem arith_Text_con (k : Nat) (v0 : S23) (r : S23 × Int) (h : arith_Text k v0 = some r) : Con (X := UX) Tryd.prog 17 [.pv (.typ (.s23 v0))] [] (arith_Text_enc r) [] :=
  con_of_body xok tok Tryd.func17 arith_Text_body (arith_Text_gok k) rfl (arith_Text_cok k) (of_decide_eq_true (by kernel_rfl)) arith_Text_dec_enc ((arith_Text_eq k v0).trans h)
noncomputable def arith_Text_an {ρ : Type} (k : Nat) : An UX ρ := fun args bx K =>
popA args fun v1 a2 =>
as_s23 v1 fun v0 =>
popN a2 <|
popN bx <|
(arith_Text k v0).bind fun r => K (arith_Text_enc r) []
theorem arith_Text_ok {ρ : Type} (k : Nat) : AnsOK Tryd.prog 17 (arith_Text_an (ρ := ρ) k) := by
  intro args bx K r h
  unfold arith_Text_an at h
  replace h := popA_inv h; obtain ⟨v1, a2, rfl, h⟩ := h
  replace h := as_s23_inv h; obtain ⟨v0, rfl, h⟩ := h
  replace h := popN_inv h; obtain ⟨rfl, h⟩ := h
  replace h := popN_inv h; obtain ⟨rfl, h⟩ := h
  replace h := bind_inv h
  obtain ⟨x, hx, h⟩ := h
  exact ⟨there_of Tryd.func17 (by kernel_rfl) arith_Text_body, _, _, h, arith_Text_con k v0 x hx⟩

/-! cadastre/cast.Store -/
noncomputable def cast_Store_code : Code := match Tryd.f14.body with | some c => c | none => .skip
theorem cast_Store_body : Tryd.f14.body = some cast_Store_code := by kernel_rfl
noncomputable def cast_Store_G {ρ : Type} (k : Nat) : Ans UX ρ := gk 31 (value_Good_an k) (gk 32 (value_Type_an k) (gk 33 (cast_number_an k) (gk 17 (arith_Text_an k) (gnil))))
theorem cast_Store_gok {ρ : Type} (k : Nat) : GOK Tryd.prog (cast_Store_G (ρ := ρ) k) := gok_cons (value_Good_ok k) (gok_cons (value_Type_ok k) (gok_cons (cast_number_ok k) (gok_cons (arith_Text_ok k) (gok_nil))))
noncomputable def cast_Store_j9_s {ρ : Type} (k : Nat) : Run UX ρ := fun s K =>
popS 1 s.env fun v1 e2 =>
asI .i64 v1 fun t1 =>
popS 2 e2 fun v3 e4 =>
asP 2 0 v3 <|
popS 4 e4 fun v5 e6 =>
asP 4 0 v5 <|
popN e6 <|
popB 2 s.hp fun c7 e8 =>
popA c7 fun v9 c10 =>
asI .i64 v9 fun z11 =>
popA c10 fun v12 c13 =>
asI .i64 v12 fun z14 =>
popA c13 fun v15 c16 =>
asS v15 fun z17 =>
popN c16 <|
popB 4 e8 fun c18 e19 =>
popA c18 fun v20 c21 =>
asI .i64 v20 fun z22 =>
popA c21 fun v23 c24 =>
asI .i64 v23 fun z25 =>
popA c24 fun v26 c27 =>
asS v26 fun z28 =>
popN c27 <|
popN e19 <|
cast_Store_j9 k (fun t5 t4 => K .ret ⟨[(4, .ptr 4 0), (5, .pv (.int .i64 t5))], [(4, [.pv (.int .i64 t4.f0), .pv (.int .i64 t4.f1), .pv (.str t4.f2)])]⟩) (fun t4 => K .nxt ⟨[(4, .ptr 4 0)], [(4, [.pv (.int .i64 t4.f0), .pv (.int .i64 t4.f1), .pv (.str t4.f2)])]⟩) t1 (⟨z11, z14, z17⟩ : S23) (⟨z22, z25, z28⟩ : S23)
noncomputable def cast_Store_j5_s {ρ : Type} (k : Nat) : Run UX ρ := fun s K =>
popS 1 s.env fun v1 e2 =>
asI .i64 v1 fun t1 =>
popS 2 e2 fun v3 e4 =>
asP 2 0 v3 <|
popS 4 e4 fun v5 e6 =>
asP 4 0 v5 <|
popN e6 <|
popB 2 s.hp fun c7 e8 =>
popA c7 fun v9 c10 =>
asI .i64 v9 fun z11 =>
popA c10 fun v12 c13 =>
asI .i64 v12 fun z14 =>
popA c13 fun v15 c16 =>
asS v15 fun z17 =>
popN c16 <|
popB 4 e8 fun c18 e19 =>
popA c18 fun v20 c21 =>
asI .i64 v20 fun z22 =>
popA c21 fun v23 c24 =>
asI .i64 v23 fun z25 =>
popA c24 fun v26 c27 =>
asS v26 fun z28 =>
popN c27 <|
popN e19 <|
cast_Store_j5 k (fun t5 t4 => K .ret ⟨[(4, .ptr 4 0), (5, .pv (.int .i64 t5))], [(4, [.pv (.int .i64 t4.f0), .pv (.int .i64 t4.f1), .pv (.str t4.f2)])]⟩) (fun t4 => K .nxt ⟨[(4, .ptr 4 0)], [(4, [.pv (.int .i64 t4.f0), .pv (.int .i64 t4.f1), .pv (.str t4.f2)])]⟩) t1 (⟨z11, z14, z17⟩ : S23) (⟨z22, z25, z28⟩ : S23)
noncomputable def cast_Store_j3_s {ρ : Type} (k : Nat) : Run UX ρ := fun s K =>
popS 1 s.env fun v1 e2 =>
asI .i64 v1 fun t1 =>
popS 2 e2 fun v3 e4 =>
asP 2 0 v3 <|
popS 4 e4 fun v5 e6 =>
asP 4 0 v5 <|
popN e6 <|
popB 2 s.hp fun c7 e8 =>
popA c7 fun v9 c10 =>
asI .i64 v9 fun z11 =>
popA c10 fun v12 c13 =>
asI .i64 v12 fun z14 =>
popA c13 fun v15 c16 =>
asS v15 fun z17 =>
popN c16 <|
popB 4 e8 fun c18 e19 =>
popA c18 fun v20 c21 =>
asI .i64 v20 fun z22 =>
popA c21 fun v23 c24 =>
asI .i64 v23 fun z25 =>
popA c24 fun v26 c27 =>
asS v26 fun z28 =>
popN c27 <|
popN e19 <|
cast_Store_j3 k (fun t5 t4 => K .ret ⟨[(4, .ptr 4 0), (5, .pv (.int .i64 t5))], [(4, [.pv (.int .i64 t4.f0), .pv (.int .i64 t4.f1), .pv (.str t4.f2)])]⟩) (fun t4 => K .nxt ⟨[(4, .ptr 4 0)], [(4, [.pv (.int .i64 t4.f0), .pv (.int .i64 t4.f1), .pv (.str t4.f2)])]⟩) t1 (⟨z11, z14, z17⟩ : S23) (⟨z22, z25, z28⟩ : S23)
noncomputable def cast_Store_cfg {ρ : Type} (k : Nat) : Cfg UX ρ where
  live i := (assoc [(0, [0, 1]), (1, [1, 2, 4]), (2, [4]), (3, [1, 2, 4]), (4, [2, 4]), (5, [1, 2, 4]), (6, [2, 4]), (7, [1, 2, 4]), (8, [2, 4]), (9, [1, 2, 4]), (10, [2, 4]), (11, [4])] i).getD []
  boxes i := (assoc [(0, []), (1, [2, 4]), (2, [4]), (3, [2, 4]), (4, [2, 4]), (5, [2, 4]), (6, [2, 4]), (7, [2, 4]), (8, [2, 4]), (9, [2, 4]), (10, [2, 4]), (11, [4])] i).getD []
  tk i := (assoc [] i).getD []
  n := 56
  labelR l := (assoc [] l).getD 0
  loops := assoc []
  labels := assoc []
  joins := assoc [(9, cast_Store_j9_s k), (5, cast_Store_j5_s k), (3, cast_Store_j3_s k)]
  xl i e := match e with
    | .nxt => assoc [(9, ([4], [4])), (5, ([4], [4])), (3, ([4], [4]))] i
    | .ret => assoc [(9, ([4, 5], [4])), (5, ([4, 5], [4])), (3, ([4, 5], [4]))] i
    | .exit j => (assoc [] i).bind fun l => assoc l j
    | .goto j => (assoc [] i).bind fun l => assoc l j
noncomputable def cast_Store_L : List Code := selI [] (loopsOf cast_Store_code)
noncomputable def cast_Store_J : List Code := selI [9, 5, 3] (joinsOf cast_Store_code)
noncomputable def cast_Store_S : List Code := scopesOf cast_Store_code
theorem cast_Store_j3_eq0 {ρ : Type} (k : Nat) (K : Ex → St UU → Option ρ) (t1 : Int) (v2 : S23) (t4 : S23) : exec UX (cast_Store_cfg k) (cast_Store_G k) (cast_Store_J.getD 0 .skip) ⟨[(1, .pv (.int .i64 t1)), (2, .ptr 2 0), (4, .ptr 4 0)], [(2, [.pv (.int .i64 v2.f0), .pv (.int .i64 v2.f1), .pv (.str v2.f2)]), (4, [.pv (.int .i64 t4.f0), .pv (.int .i64 t4.f1), .pv (.str t4.f2)])]⟩ (nrmK UX (cast_Store_cfg k) 3 K) = cast_Store_j3 k (fun t5 t4 => K .ret ⟨[(4, .ptr 4 0), (5, .pv (.int .i64 t5))], [(4, [.pv (.int .i64 t4.f0), .pv (.int .i64 t4.f1), .pv (.str t4.f2)])]⟩) (fun t4 => K .nxt ⟨[(4, .ptr 4 0)], [(4, [.pv (.int .i64 t4.f0), .pv (.int .i64 t4.f1), .pv (.str t4.f2)])]⟩) t1 v2 t4 := by kernel_rfl
theorem cast_Store_j3_ok0 {ρ : Type} (k : Nat) : JoinOK UX (cast_Store_cfg (ρ := ρ) k) (cast_Store_G k) (cast_Store_J.getD 0 .skip) 3 (cast_Store_j3_s k) := by
  intro s K r h
  obtain ⟨env, hp⟩ := s
  unfold cast_Store_j3_s at h
  replace h := popS_inv h; obtain ⟨v1, e2, rfl, h⟩ := h
  replace h := asI_inv h; obtain ⟨t1, rfl, h⟩ := h
  replace h := popS_inv h; obtain ⟨v3, e4, rfl, h⟩ := h
  replace h := asP_inv h; obtain ⟨rfl, h⟩ := h
  replace h := popS_inv h; obtain ⟨v5, e6, rfl, h⟩ := h
  replace h := asP_inv h; obtain ⟨rfl, h⟩ := h
  replace h := popN_inv h; obtain ⟨rfl, h⟩ := h
  replace h := popB_inv h; obtain ⟨c7, e8, rfl, h⟩ := h
  replace h := popA_inv h; obtain ⟨v9, c10, rfl, h⟩ := h
  replace h := asI_inv h; obtain ⟨z11, rfl, h⟩ := h
  replace h := popA_inv h; obtain ⟨v12, c13, rfl, h⟩ := h
  replace h := asI_inv h; obtain ⟨z14, rfl, h⟩ := h
  replace h := popA_inv h; obtain ⟨v15, c16, rfl, h⟩ := h
  replace h := asS_inv h; obtain ⟨z17, rfl, h⟩ := h
  replace h := popN_inv h; obtain ⟨rfl, h⟩ := h
  replace h := popB_inv h; obtain ⟨c18, e19, rfl, h⟩ := h
  replace h := popA_inv h; obtain ⟨v20, c21, rfl, h⟩ := h
  replace h := asI_inv h; obtain ⟨z22, rfl, h⟩ := h
  replace h := popA_inv h; obtain ⟨v23, c24, rfl, h⟩ := h
  replace h := asI_inv h; obtain ⟨z25, rfl, h⟩ := h
  replace h := popA_inv h; obtain ⟨v26, c27, rfl, h⟩ := h
  replace h := asS_inv h; obtain ⟨z28, rfl, h⟩ := h
  replace h := popN_inv h; obtain ⟨rfl, h⟩ := h
  replace h := popN_inv h; obtain ⟨rfl, h⟩ := h
  exact (cast_Store_j3_eq0 k K t1 (⟨z11, z14, z17⟩ : S23) (⟨z22, z25, z28⟩ : S23)).trans h
theorem cast_Store_j5_eq1 {ρ : Type} (k : Nat) (K : Ex → St UU → Option ρ) (t1 : Int) (v2 : S23) (t4 : S23) : exec UX (cast_Store_cfg k) (cast_Store_G k) (cast_Store_J.getD 1 .skip) ⟨[(1, .pv (.int .i64 t1)), (2, .ptr 2 0), (4, .ptr 4 0)], [(2, [.pv (.int .i64 v2.f0), .pv (.int .i64 v2.f1), .pv (.str v2.f2)]), (4, [.pv (.int .i64 t4.f0), .pv (.int .i64 t4.f1), .pv (.str t4.f2)])]⟩ (nrmK UX (cast_Store_cfg k) 5 K) = cast_Store_j5 k (fun t5 t4 => K .ret ⟨[(4, .ptr 4 0), (5, .pv (.int .i64 t5))], [(4, [.pv (.int .i64 t4.f0), .pv (.int .i64 t4.f1), .pv (.str t4.f2)])]⟩) (fun t4 => K .nxt ⟨[(4, .ptr 4 0)], [(4, [.pv (.int .i64 t4.f0), .pv (.int .i64 t4.f1), .pv (.str t4.f2)])]⟩) t1 v2 t4 := by kernel_rfl
theorem cast_Store_j5_ok1 {ρ : Type} (k : Nat) : JoinOK UX (cast_Store_cfg (ρ := ρ) k) (cast_Store_G k) (cast_Store_J.getD 1 .skip) 5 (cast_Store_j5_s k) := by
  intro s K r h
  obtain ⟨env, hp⟩ := s
  unfold cast_Store_j5_s at h
  replace h := popS_inv h; obtain ⟨v1, e2, rfl, h⟩ := h
  replace h := asI_inv h; obtain ⟨t1, rfl, h⟩ := h
  replace h := popS_inv h; obtain ⟨v3, e4, rfl, h⟩ := h
  replace h := asP_inv h; obtain ⟨rfl, h⟩ := h
  replace h := popS_inv h; obtain ⟨v5, e6, rfl, h⟩ := h
  replace h := asP_inv h; obtain ⟨rfl, h⟩ := h
  replace h := popN_inv h; obtain ⟨rfl, h⟩ := h
  replace h := popB_inv h; obtain ⟨c7, e8, rfl, h⟩ := h
  replace h := popA_inv h; obtain ⟨v9, c10, rfl, h⟩ := h
  replace h := asI_inv h; obtain ⟨z11, rfl, h⟩ := h
  replace h := popA_inv h; obtain ⟨v12, c13, rfl, h⟩ := h
  replace h := asI_inv h; obtain ⟨z14, rfl, h⟩ := h
  replace h := popA_inv h; obtain ⟨v15, c16, rfl, h⟩ := h
  replace h := asS_inv h; obtain ⟨z17, rfl, h⟩ := h
  replace h := popN_inv h; obtain ⟨rfl, h⟩ := h
  replace h := popB_inv h; obtain ⟨c18, e19, rfl, h⟩ := h
  replace h := popA_inv h; obtain ⟨v20, c21, rfl, h⟩ := h
  replace h := asI_inv h; obtain ⟨z22, rfl, h⟩ := h
  replace h := popA_inv h; obtain ⟨v23, c24, rfl, h⟩ := h
  replace h := asI_inv h; obtain ⟨z25, rfl, h⟩ := h
  replace h := popA_inv h; obtain ⟨v26, c27, rfl, h⟩ := h
  replace h := asS_inv h; obtain ⟨z28, rfl, h⟩ := h
  replace h := popN_inv h; obtain ⟨rfl, h⟩ := h
  replace h := popN_inv h; obtain ⟨rfl, h⟩ := h
  exact (cast_Store_j5_eq1 k K t1 (⟨z11, z14, z17⟩ : S23) (⟨z22, z25, z28⟩ : S23)).trans h
theorem cast_Store_j9_eq2 {ρ : Type} (k : Nat) (K : Ex → St UU → Option ρ) (t1 : Int) (v2 : S23) (t4 : S23) : exec UX (cast_Store_cfg k) (cast_Store_G k) (cast_Store_J.getD 2 .skip) ⟨[(1, .pv (.int .i64 t1)), (2, .ptr 2 0), (4, .ptr 4 0)], [(2, [.pv (.int .i64 v2.f0), .pv (.int .i64 v2.f1), .pv (.str v2.f2)]), (4, [.pv (.int .i64 t4.f0), .pv (.int .i64 t4.f1), .pv (.str t4.f2)])]⟩ (nrmK UX (cast_Store_cfg k) 9 K) = cast_Store_j9 k (fun t5 t4 => K .ret ⟨[(4, .ptr 4 0), (5, .pv (.int .i64 t5))], [(4, [.pv (.int .i64 t4.f0), .pv (.int .i64 t4.f1), .pv (.str t4.f2)])]⟩) (fun t4 => K .nxt ⟨[(4, .ptr 4 0)], [(4, [.pv (.int .i64 t4.f0), .pv (.int .i64 t4.f1), .pv (.str t4.f2)])]⟩) t1 v2 t4 := by kernel_rfl
theorem cast_Store_j9_ok2 {ρ : Type} (k : Nat) : JoinOK UX (cast_Store_cfg (ρ := ρ) k) (cast_Store_G k) (cast_Store_J.getD 2 .skip) 9 (cast_Store_j9_s k) := by
  intro s K r h
  obtain ⟨env, hp⟩ := s
  unfold cast_Store_j9_s at h
  replace h := popS_inv h; obtain ⟨v1, e2, rfl, h⟩ := h
  replace h := asI_inv h; obtain ⟨t1, rfl, h⟩ := h
  replace h := popS_inv h; obtain ⟨v3, e4, rfl, h⟩ := h
  replace h := asP_inv h; obtain ⟨rfl, h⟩ := h
  replace h := popS_inv h; obtain ⟨v5, e6, rfl, h⟩ := h
  replace h := asP_inv h; obtain ⟨rfl, h⟩ := h
  replace h := popN_inv h; obtain ⟨rfl, h⟩ := h
  replace h := popB_inv h; obtain ⟨c7, e8, rfl, h⟩ := h
  replace h := popA_inv h; obtain ⟨v9, c10, rfl, h⟩ := h
  replace h := asI_inv h; obtain ⟨z11, rfl, h⟩ := h
  replace h := popA_inv h; obtain ⟨v12, c13, rfl, h⟩ := h
  replace h := asI_inv h; obtain ⟨z14, rfl, h⟩ := h
  replace h := popA_inv h; obtain ⟨v15, c16, rfl, h⟩ := h
  replace h := asS_inv h; obtain ⟨z17, rfl, h⟩ := h
  replace h := popN_inv h; obtain ⟨rfl, h⟩ := h
  replace h := popB_inv h; obtain ⟨c18, e19, rfl, h⟩ := h
  replace h := popA_inv h; obtain ⟨v20, c21, rfl, h⟩ := h
  replace h := asI_inv h; obtain ⟨z22, rfl, h⟩ := h
  replace h := popA_inv h; obtain ⟨v23, c24, rfl, h⟩ := h
  replace h := asI_inv h; obtain ⟨z25, rfl, h⟩ := h
  replace h := popA_inv h; obtain ⟨v26, c27, rfl, h⟩ := h
  replace h := asS_inv h; obtain ⟨z28, rfl, h⟩ := h
  replace h := popN_inv h; obtain ⟨rfl, h⟩ := h
  replace h := popN_inv h; obtain ⟨rfl, h⟩ := h
  exact (cast_Store_j9_eq2 k K t1 (⟨z11, z14, z17⟩ : S23) (⟨z22, z25, z28⟩ : S23)).trans h
theorem cast_Store_cok {ρ : Type} (k : Nat) : COK (cast_Store_cfg (ρ := ρ) k) (cast_Store_G k) cast_Store_code :=
  cok_of (tl := []) (tj := [(9, cast_Store_j9_s k), (5, cast_Store_j5_s k), (3, cast_Store_j3_s k)]) (tb := []) rfl rfl rfl (nil_all (by kernel_rfl)) (all_nth 3 (by kernel_rfl) ⟨join_case (by kernel_rfl) rfl (cast_Store_j9_ok2 k), join_case (by kernel_rfl) rfl (cast_Store_j5_ok1 k), join_case (by kernel_rfl) rfl (cast_Store_j3_ok0 k), trivial⟩) (fun p hp => by cases hp)
noncomputable def cast_Store_enc (r : S23 × Int) : AV UU := .pv (.tup [.typ (.s23 r.1), .int .i64 r.2])
noncomputable def cast_Store_dec (v : AV UU) (_ : List (List (AV UU))) : Option (S23 × Int) :=
asT v fun q1 =>
popA q1 fun p2 q3 =>
as_s23 (.pv p2) fun r0 =>
popA q3 fun p4 q5 =>
asI .i64 (.pv p4) fun r1 =>
popN q5 <|
some (r0, r1)
theorem cast_Store_dec_enc (v : AV UU) (b : List (List (AV UU))) (r : S23 × Int) (h : cast_Store_dec v b = some r) : v = cast_Store_enc r := by
  unfold cast_Store_dec at h
  replace h := asT_inv h; obtain ⟨q1, rfl, h⟩ := h
  replace h := popA_inv h; obtain ⟨p2, q3, rfl, h⟩ := h
  replace h := as_s23_inv h; obtain ⟨r0, e, h⟩ := h; cases e
  replace h := popA_inv h; obtain ⟨p4, q5, rfl, h⟩ := h
  replace h := asI_inv h; obtain ⟨r1, e, h⟩ := h; cases e
  replace h := popN_inv h; obtain ⟨rfl, h⟩ := h
  cases h
  rfl
theorem cast_Store_eq (k : Nat) (v0 : S23) (t1 : Int) : bodyK UX (cast_Store_cfg k) (cast_Store_G k) Tryd.f14 [.pv (.typ (.s23 v0)), .pv (.int .i64 t1)] [] cast_Store_dec = cast_Store k v0 t1 := by kernel_rfl
theorem cast_Store_con (k : Nat) (v0 : S23) (t1 : Int) (r : S23 × Int) (h : cast_Store k v0 t1 = some r) : Con (X := UX) Tryd.prog 14 [.pv (.typ (.s23 v0)), .pv (.int .i64 t1)] [] (cast_Store_enc r) [] :=
  con_of_body xok tok Tryd.func14 cast_Store_body (cast_Store_gok k) rfl (cast_Store_cok k) (of_decide_eq_true (by kernel_rfl)) cast_Store_dec_enc ((cast_Store_eq k v0 t1).trans h)
noncomputable def cast_Store_an {ρ : Type} (k : Nat) : An UX ρ := fun args bx K =>
popA args fun v1 a2 =>
as_s23 v1 fun v0 =>
popA a2 fun v3 a4 =>
asI .i64 v3 fun t1 =>
popN a4 <|
popN bx <|
(cast_Store k v0 t1).bind fun r => K (cast_Store_enc r) []
theorem cast_Store_ok {ρ : Type} (k : Nat) : AnsOK Tryd.prog 14 (cast_Store_an (ρ := ρ) k) := by
  intro args bx K r h
  unfold cast_Store_an at h
  replace h := popA_inv h; obtain ⟨v1, a2, rfl, h⟩ := h
  replace h := as_s23_inv h; obtain ⟨v0, rfl, h⟩ := h
  replace h := popA_inv h; obtain ⟨v3, a4, rfl, h⟩ := h
  replace h := asI_inv h; obtain ⟨t1, rfl, h⟩ := h
  replace h := popN_inv h; obtain ⟨rfl, h⟩ := h
  replace h := popN_inv h; obtain ⟨rfl, h⟩ := h
  replace h := bind_inv h
  obtain ⟨x, hx, h⟩ := h
  exact ⟨there_of Tryd.func14 (by kernel_rfl) cast_Store_body, _, _, h, cast_Store_con k v0 t1 x hx⟩

/-! cadastre/cadastrelaw5.wakes -/
noncomputable def cadastrelaw5_wakes_code : Code := match Tryd.f15.body with | some c => c | none => .skip
theorem cadastrelaw5_wakes_body : Tryd.f15.body = some cadastrelaw5_wakes_code := by kernel_rfl
noncomputable def cadastrelaw5_wakes_G {ρ : Type} (k : Nat) : Ans UX ρ := gk 8 (cast_Int_an k) (gk 10 (cadastrelaw5_num_an k) (gnil))
theorem cadastrelaw5_wakes_gok {ρ : Type} (k : Nat) : GOK Tryd.prog (cadastrelaw5_wakes_G (ρ := ρ) k) := gok_cons (cast_Int_ok k) (gok_cons (cadastrelaw5_num_ok k) (gok_nil))
noncomputable def cadastrelaw5_wakes_cfg {ρ : Type} (k : Nat) : Cfg UX ρ where
  live i := (assoc [(0, []), (1, []), (2, [1, 2])] i).getD []
  boxes i := (assoc [(0, []), (1, []), (2, [])] i).getD []
  tk i := (assoc [] i).getD []
  n := 14
  labelR l := (assoc [] l).getD 0
  loops := assoc []
  labels := assoc []
  joins := assoc []
  xl i e := match e with
    | .nxt => assoc [] i
    | .ret => assoc [] i
    | .exit j => (assoc [] i).bind fun l => assoc l j
    | .goto j => (assoc [] i).bind fun l => assoc l j
noncomputable def cadastrelaw5_wakes_L : List Code := selI [] (loopsOf cadastrelaw5_wakes_code)
noncomputable def cadastrelaw5_wakes_J : List Code := selI [] (joinsOf cadastrelaw5_wakes_code)
noncomputable def cadastrelaw5_wakes_S : List Code := scopesOf cadastrelaw5_wakes_code
theorem cadastrelaw5_wakes_cok {ρ : Type} (k : Nat) : COK (cadastrelaw5_wakes_cfg (ρ := ρ) k) (cadastrelaw5_wakes_G k) cadastrelaw5_wakes_code :=
  cok_of (tl := []) (tj := []) (tb := []) rfl rfl rfl (nil_all (by kernel_rfl)) (nil_all (by kernel_rfl)) (fun p hp => by cases hp)
noncomputable def cadastrelaw5_wakes_enc (r : Bool) : AV UU := .pv (.bool r)
noncomputable def cadastrelaw5_wakes_dec (v : AV UU) (_ : List (List (AV UU))) : Option Bool :=
asB v fun r0 =>
some r0
theorem cadastrelaw5_wakes_dec_enc (v : AV UU) (b : List (List (AV UU))) (r : Bool) (h : cadastrelaw5_wakes_dec v b = some r) : v = cadastrelaw5_wakes_enc r := by
  unfold cadastrelaw5_wakes_dec at h
  replace h := asB_inv h; obtain ⟨r0, rfl, h⟩ := h
  cases h
  rfl
theorem cadastrelaw5_wakes_eq (k : Nat) : bodyK UX (cadastrelaw5_wakes_cfg k) (cadastrelaw5_wakes_G k) Tryd.f15 [] [] cadastrelaw5_wakes_dec = cadastrelaw5_wakes k := by kernel_rfl
theorem cadastrelaw5_wakes_con (k : Nat) (r : Bool) (h : cadastrelaw5_wakes k = some r) : Con (X := UX) Tryd.prog 15 [] [] (cadastrelaw5_wakes_enc r) [] :=
  con_of_body xok tok Tryd.func15 cadastrelaw5_wakes_body (cadastrelaw5_wakes_gok k) rfl (cadastrelaw5_wakes_cok k) (of_decide_eq_true (by kernel_rfl)) cadastrelaw5_wakes_dec_enc ((cadastrelaw5_wakes_eq k).trans h)
noncomputable def cadastrelaw5_wakes_an {ρ : Type} (k : Nat) : An UX ρ := fun args bx K =>
popN args <|
popN bx <|
(cadastrelaw5_wakes k).bind fun r => K (cadastrelaw5_wakes_enc r) []
theorem cadastrelaw5_wakes_ok {ρ : Type} (k : Nat) : AnsOK Tryd.prog 15 (cadastrelaw5_wakes_an (ρ := ρ) k) := by
  intro args bx K r h
  unfold cadastrelaw5_wakes_an at h
  replace h := popN_inv h; obtain ⟨rfl, h⟩ := h
  replace h := popN_inv h; obtain ⟨rfl, h⟩ := h
  replace h := bind_inv h
  obtain ⟨x, hx, h⟩ := h
  exact ⟨there_of Tryd.func15 (by kernel_rfl) cadastrelaw5_wakes_body, _, _, h, cadastrelaw5_wakes_con k x hx⟩

/-! cadastre/cadastrelaw5.CastExact -/
noncomputable def cadastrelaw5_CastExact_code : Code := match Tryd.f3.body with | some c => c | none => .skip
theorem cadastrelaw5_CastExact_body : Tryd.f3.body = some cadastrelaw5_CastExact_code := by kernel_rfl
noncomputable def cadastrelaw5_CastExact_G {ρ : Type} (k : Nat) : Ans UX ρ := gk 8 (cast_Int_an k) (gk 9 (cadastreref4_Int_an k) (gk 10 (cadastrelaw5_num_an k) (gk 11 (cadastreref2_May_an k) (gk 12 (cadastreref2_Type_an k) (gk 13 (cadastreref4_Store_an k) (gk 14 (cast_Store_an k) (gk 15 (cadastrelaw5_wakes_an k) (gnil))))))))
theorem cadastrelaw5_CastExact_gok {ρ : Type} (k : Nat) : GOK Tryd.prog (cadastrelaw5_CastExact_G (ρ := ρ) k) := gok_cons (cast_Int_ok k) (gok_cons (cadastreref4_Int_ok k) (gok_cons (cadastrelaw5_num_ok k) (gok_cons (cadastreref2_May_ok k) (gok_cons (cadastreref2_Type_ok k) (gok_cons (cadastreref4_Store_ok k) (gok_cons (cast_Store_ok k) (gok_cons (cadastrelaw5_wakes_ok k) (gok_nil))))))))
noncomputable def cadastrelaw5_CastExact_j14_s {ρ : Type} (k : Nat) : Run UX ρ := fun s K =>
popS 0 s.env fun v1 e2 =>
as_l25 v1 fun l0 =>
popS 3 e2 fun v3 e4 =>
asI .i64 v3 fun i3 =>
popS 4 e4 fun v5 e6 =>
asP 4 0 v5 <|
popS 9 e6 fun v7 e8 =>
asP 9 0 v7 <|
popS 10 e8 fun v9 e10 =>
asI .i64 v9 fun wrong10 =>
popN e10 <|
popB 4 s.hp fun c11 e12 =>
popA c11 fun v13 c14 =>
asS v13 fun z15 =>
popA c14 fun v16 c17 =>
asI .i64 v16 fun z18 =>
popA c17 fun v19 c20 =>
asI .i64 v19 fun z21 =>
popA c20 fun v22 c23 =>
asS v22 fun z24 =>
popA c23 fun v25 c26 =>
asI .i64 v25 fun z27 =>
popN c26 <|
popB 9 e12 fun c28 e29 =>
popA c28 fun v30 c31 =>
asI .i64 v30 fun z32 =>
popA c31 fun v33 c34 =>
asI .i64 v33 fun z35 =>
popA c34 fun v36 c37 =>
asS v36 fun z38 =>
popN c37 <|
popN e29 <|
cadastrelaw5_CastExact_j14 k (fun t2 => K .ret ⟨[(2, .pv (.bool t2))], []⟩) (fun l0 i3 => K .nxt ⟨[(0, .pv (.typ (.l25 l0))), (3, .pv (.int .i64 i3))], []⟩) l0 i3 wrong10 (⟨z15, (⟨z18, z21, z24⟩ : S23), z27⟩ : S25) (⟨z32, z35, z38⟩ : S23)
noncomputable def cadastrelaw5_CastExact_j11_s {ρ : Type} (k : Nat) : Run UX ρ := fun s K =>
popS 0 s.env fun v1 e2 =>
as_l25 v1 fun l0 =>
popS 3 e2 fun v3 e4 =>
asI .i64 v3 fun i3 =>
popS 4 e4 fun v5 e6 =>
asP 4 0 v5 <|
popN e6 <|
popB 4 s.hp fun c7 e8 =>
popA c7 fun v9 c10 =>
asS v9 fun z11 =>
popA c10 fun v12 c13 =>
asI .i64 v12 fun z14 =>
popA c13 fun v15 c16 =>
asI .i64 v15 fun z17 =>
popA c16 fun v18 c19 =>
asS v18 fun z20 =>
popA c19 fun v21 c22 =>
asI .i64 v21 fun z23 =>
popN c22 <|
popN e8 <|
cadastrelaw5_CastExact_j11 k (fun t2 => K .ret ⟨[(2, .pv (.bool t2))], []⟩) (fun l0 i3 => K .nxt ⟨[(0, .pv (.typ (.l25 l0))), (3, .pv (.int .i64 i3))], []⟩) l0 i3 (⟨z11, (⟨z14, z17, z20⟩ : S23), z23⟩ : S25)
noncomputable def cadastrelaw5_CastExact_j4_s {ρ : Type} (k : Nat) : Run UX ρ := fun s K =>
popS 0 s.env fun v1 e2 =>
as_l25 v1 fun l0 =>
popS 3 e2 fun v3 e4 =>
asI .i64 v3 fun i3 =>
popN e4 <|
popN s.hp <|
cadastrelaw5_CastExact_j4 k (fun t2 => K .ret ⟨[(2, .pv (.bool t2))], []⟩) (fun l0 i3 => K .nxt ⟨[(0, .pv (.typ (.l25 l0))), (3, .pv (.int .i64 i3))], []⟩) l0 i3
noncomputable def cadastrelaw5_CastExact_l2_s {ρ : Type} (k : Nat) : Run UX ρ := fun s K =>
popS 0 s.env fun v1 e2 =>
as_l25 v1 fun l0 =>
popS 3 e2 fun v3 e4 =>
asI .i64 v3 fun i3 =>
popN e4 <|
popN s.hp <|
cadastrelaw5_CastExact_l2 k (fun t2 => K .ret ⟨[(2, .pv (.bool t2))], []⟩) (K (.exit 0) ⟨[], []⟩) k l0 i3
noncomputable def cadastrelaw5_CastExact_cfg {ρ : Type} (k : Nat) : Cfg UX ρ where
  live i := (assoc [(0, [0]), (1, [0]), (2, [0, 3]), (3, [0, 3]), (4, [0, 3]), (5, [0, 3, 4]), (6, []), (7, [0, 3, 4]), (8, [0, 3, 4, 5, 6]), (9, [0, 3, 4, 5, 6, 7, 8]), (10, []), (11, [0, 3, 4]), (12, [0, 3, 4, 9, 10]), (13, [0, 3, 4, 9]), (14, [0, 3, 4, 9, 10]), (15, [0, 3, 9, 10, 11, 12]), (16, []), (17, [])] i).getD []
  boxes i := (assoc [(0, []), (1, []), (2, []), (3, []), (4, []), (5, [4]), (6, []), (7, [4]), (8, [4]), (9, [4]), (10, []), (11, [4]), (12, [4, 9]), (13, [4, 9]), (14, [4, 9]), (15, [9, 11]), (16, []), (17, [])] i).getD []
  tk i := (assoc [] i).getD []
  n := 87
  labelR l := (assoc [] l).getD 0
  loops := assoc [(2, cadastrelaw5_CastExact_l2_s k)]
  labels := assoc []
  joins := assoc [(14, cadastrelaw5_CastExact_j14_s k), (11, cadastrelaw5_CastExact_j11_s k), (4, cadastrelaw5_CastExact_j4_s k)]
  xl i e := match e with
    | .nxt => assoc [(14, ([0, 3], [])), (11, ([0, 3], [])), (4, ([0, 3], []))] i
    | .ret => assoc [(14, ([2], [])), (11, ([2], [])), (4, ([2], [])), (2, ([2], []))] i
    | .exit j => (assoc [(2, [(0, ([], []))])] i).bind fun l => assoc l j
    | .goto j => (assoc [] i).bind fun l => assoc l j
noncomputable def cadastrelaw5_CastExact_L : List Code := selI [2] (loopsOf cadastrelaw5_CastExact_code)
noncomputable def cadastrelaw5_CastExact_J : List Code := selI [14, 11, 4] (joinsOf cadastrelaw5_CastExact_code)
noncomputable def cadastrelaw5_CastExact_S : List Code := scopesOf cadastrelaw5_CastExact_code
theorem cadastrelaw5_CastExact_l2_eq0 {ρ : Type} (k : Nat) (K : Ex → St UU → Option ρ) : ∀ (n : Nat) (v : (List S25) × Int), iterK UX (fun s => s.at (cadastrelaw5_CastExact_cfg (ρ := ρ) k).live (cadastrelaw5_CastExact_cfg (ρ := ρ) k).boxes (some 2)) (exec UX (cadastrelaw5_CastExact_cfg k) (cadastrelaw5_CastExact_G k) (cadastrelaw5_CastExact_L.getD 0 .skip)) n ⟨[(0, .pv (.typ (.l25 v.1))), (3, .pv (.int .i64 v.2))], []⟩ (nrmK UX (cadastrelaw5_CastExact_cfg k) 2 K) = cadastrelaw5_CastExact_l2 k (fun t2 => K .ret ⟨[(2, .pv (.bool t2))], []⟩) (K (.exit 0) ⟨[], []⟩) n v.1 v.2 :=
  iter_rec (X := UX) (fun v => ⟨[(0, .pv (.typ (.l25 v.1))), (3, .pv (.int .i64 v.2))], []⟩) (fun rec v => cadastrelaw5_CastExact_l2_b k (fun t2 => K .ret ⟨[(2, .pv (.bool t2))], []⟩) (K (.exit 0) ⟨[], []⟩) (fun l0 i3 => rec (l0, i3)) v.1 v.2) (fun n v => cadastrelaw5_CastExact_l2 k (fun t2 => K .ret ⟨[(2, .pv (.bool t2))], []⟩) (K (.exit 0) ⟨[], []⟩) n v.1 v.2) (fun n v => by kernel_rfl) (fun _ => rfl) (fun _ _ => rfl)
theorem cadastrelaw5_CastExact_l2_ok0 {ρ : Type} (k : Nat) : IterOK UX (cadastrelaw5_CastExact_cfg (ρ := ρ) k) (cadastrelaw5_CastExact_G k) (cadastrelaw5_CastExact_L.getD 0 .skip) 2 (cadastrelaw5_CastExact_l2_s k) := by
  intro s K r h
  obtain ⟨env, hp⟩ := s
  unfold cadastrelaw5_CastExact_l2_s at h
  replace h := popS_inv h; obtain ⟨v1, e2, rfl, h⟩ := h
  replace h := as_l25_inv h; obtain ⟨l0, rfl, h⟩ := h
  replace h := popS_inv h; obtain ⟨v3, e4, rfl, h⟩ := h
  replace h := asI_inv h; obtain ⟨i3, rfl, h⟩ := h
  replace h := popN_inv h; obtain ⟨rfl, h⟩ := h
  replace h := popN_inv h; obtain ⟨rfl, h⟩ := h
  exact ⟨k, (cadastrelaw5_CastExact_l2_eq0 k K k (l0, i3)).trans h⟩
theorem cadastrelaw5_CastExact_j4_eq0 {ρ : Type} (k : Nat) (K : Ex → St UU → Option ρ) (l0 : List S25) (i3 : Int) : exec UX (cadastrelaw5_CastExact_cfg k) (cadastrelaw5_CastExact_G k) (cadastrelaw5_CastExact_J.getD 0 .skip) ⟨[(0, .pv (.typ (.l25 l0))), (3, .pv (.int .i64 i3))], []⟩ (nrmK UX (cadastrelaw5_CastExact_cfg k) 4 K) = cadastrelaw5_CastExact_j4 k (fun t2 => K .ret ⟨[(2, .pv (.bool t2))], []⟩) (fun l0 i3 => K .nxt ⟨[(0, .pv (.typ (.l25 l0))), (3, .pv (.int .i64 i3))], []⟩) l0 i3 := by kernel_rfl
theorem cadastrelaw5_CastExact_j4_ok0 {ρ : Type} (k : Nat) : JoinOK UX (cadastrelaw5_CastExact_cfg (ρ := ρ) k) (cadastrelaw5_CastExact_G k) (cadastrelaw5_CastExact_J.getD 0 .skip) 4 (cadastrelaw5_CastExact_j4_s k) := by
  intro s K r h
  obtain ⟨env, hp⟩ := s
  unfold cadastrelaw5_CastExact_j4_s at h
  replace h := popS_inv h; obtain ⟨v1, e2, rfl, h⟩ := h
  replace h := as_l25_inv h; obtain ⟨l0, rfl, h⟩ := h
  replace h := popS_inv h; obtain ⟨v3, e4, rfl, h⟩ := h
  replace h := asI_inv h; obtain ⟨i3, rfl, h⟩ := h
  replace h := popN_inv h; obtain ⟨rfl, h⟩ := h
  replace h := popN_inv h; obtain ⟨rfl, h⟩ := h
  exact (cadastrelaw5_CastExact_j4_eq0 k K l0 i3).trans h
theorem cadastrelaw5_CastExact_j11_eq1 {ρ : Type} (k : Nat) (K : Ex → St UU → Option ρ) (l0 : List S25) (i3 : Int) (p4 : S25) : exec UX (cadastrelaw5_CastExact_cfg k) (cadastrelaw5_CastExact_G k) (cadastrelaw5_CastExact_J.getD 1 .skip) ⟨[(0, .pv (.typ (.l25 l0))), (3, .pv (.int .i64 i3)), (4, .ptr 4 0)], [(4, [.pv (.str p4.f0), .pv (.int .i64 p4.f1.f0), .pv (.int .i64 p4.f1.f1), .pv (.str p4.f1.f2), .pv (.int .i64 p4.f2)])]⟩ (nrmK UX (cadastrelaw5_CastExact_cfg k) 11 K) = cadastrelaw5_CastExact_j11 k (fun t2 => K .ret ⟨[(2, .pv (.bool t2))], []⟩) (fun l0 i3 => K .nxt ⟨[(0, .pv (.typ (.l25 l0))), (3, .pv (.int .i64 i3))], []⟩) l0 i3 p4 := by kernel_rfl
theorem cadastrelaw5_CastExact_j11_ok1 {ρ : Type} (k : Nat) : JoinOK UX (cadastrelaw5_CastExact_cfg (ρ := ρ) k) (cadastrelaw5_CastExact_G k) (cadastrelaw5_CastExact_J.getD 1 .skip) 11 (cadastrelaw5_CastExact_j11_s k) := by
  intro s K r h
  obtain ⟨env, hp⟩ := s
  unfold cadastrelaw5_CastExact_j11_s at h
  replace h := popS_inv h; obtain ⟨v1, e2, rfl, h⟩ := h
  replace h := as_l25_inv h; obtain ⟨l0, rfl, h⟩ := h
  replace h := popS_inv h; obtain ⟨v3, e4, rfl, h⟩ := h
  replace h := asI_inv h; obtain ⟨i3, rfl, h⟩ := h
  replace h := popS_inv h; obtain ⟨v5, e6, rfl, h⟩ := h
  replace h := asP_inv h; obtain ⟨rfl, h⟩ := h
  replace h := popN_inv h; obtain ⟨rfl, h⟩ := h
  replace h := popB_inv h; obtain ⟨c7, e8, rfl, h⟩ := h
  replace h := popA_inv h; obtain ⟨v9, c10, rfl, h⟩ := h
  replace h := asS_inv h; obtain ⟨z11, rfl, h⟩ := h
  replace h := popA_inv h; obtain ⟨v12, c13, rfl, h⟩ := h
  replace h := asI_inv h; obtain ⟨z14, rfl, h⟩ := h
  replace h := popA_inv h; obtain ⟨v15, c16, rfl, h⟩ := h
  replace h := asI_inv h; obtain ⟨z17, rfl, h⟩ := h
  replace h := popA_inv h; obtain ⟨v18, c19, rfl, h⟩ := h
  replace h := asS_inv h; obtain ⟨z20, rfl, h⟩ := h
  replace h := popA_inv h; obtain ⟨v21, c22, rfl, h⟩ := h
  replace h := asI_inv h; obtain ⟨z23, rfl, h⟩ := h
  replace h := popN_inv h; obtain ⟨rfl, h⟩ := h
  replace h := popN_inv h; obtain ⟨rfl, h⟩ := h
  exact (cadastrelaw5_CastExact_j11_eq1 k K l0 i3 (⟨z11, (⟨z14, z17, z20⟩ : S23), z23⟩ : S25)).trans h
theorem cadastrelaw5_CastExact_j14_eq2 {ρ : Type} (k : Nat) (K : Ex → St UU → Option ρ) (l0 : List S25) (i3 : Int) (wrong10 : Int) (p4 : S25) (want9 : S23) : exec UX (cadastrelaw5_CastExact_cfg k) (cadastrelaw5_CastExact_G k) (cadastrelaw5_CastExact_J.getD 2 .skip) ⟨[(0, .pv (.typ (.l25 l0))), (3, .pv (.int .i64 i3)), (4, .ptr 4 0), (9, .ptr 9 0), (10, .pv (.int .i64 wrong10))], [(4, [.pv (.str p4.f0), .pv (.int .i64 p4.f1.f0), .pv (.int .i64 p4.f1.f1), .pv (.str p4.f1.f2), .pv (.int .i64 p4.f2)]), (9, [.pv (.int .i64 want9.f0), .pv (.int .i64 want9.f1), .pv (.str want9.f2)])]⟩ (nrmK UX (cadastrelaw5_CastExact_cfg k) 14 K) = cadastrelaw5_CastExact_j14 k (fun t2 => K .ret ⟨[(2, .pv (.bool t2))], []⟩) (fun l0 i3 => K .nxt ⟨[(0, .pv (.typ (.l25 l0))), (3, .pv (.int .i64 i3))], []⟩) l0 i3 wrong10 p4 want9 := by kernel_rfl
theorem cadastrelaw5_CastExact_j14_ok2 {ρ : Type} (k : Nat) : JoinOK UX (cadastrelaw5_CastExact_cfg (ρ := ρ) k) (cadastrelaw5_CastExact_G k) (cadastrelaw5_CastExact_J.getD 2 .skip) 14 (cadastrelaw5_CastExact_j14_s k) := by
  intro s K r h
  obtain ⟨env, hp⟩ := s
  unfold cadastrelaw5_CastExact_j14_s at h
  replace h := popS_inv h; obtain ⟨v1, e2, rfl, h⟩ := h
  replace h := as_l25_inv h; obtain ⟨l0, rfl, h⟩ := h
  replace h := popS_inv h; obtain ⟨v3, e4, rfl, h⟩ := h
  replace h := asI_inv h; obtain ⟨i3, rfl, h⟩ := h
  replace h := popS_inv h; obtain ⟨v5, e6, rfl, h⟩ := h
  replace h := asP_inv h; obtain ⟨rfl, h⟩ := h
  replace h := popS_inv h; obtain ⟨v7, e8, rfl, h⟩ := h
  replace h := asP_inv h; obtain ⟨rfl, h⟩ := h
  replace h := popS_inv h; obtain ⟨v9, e10, rfl, h⟩ := h
  replace h := asI_inv h; obtain ⟨wrong10, rfl, h⟩ := h
  replace h := popN_inv h; obtain ⟨rfl, h⟩ := h
  replace h := popB_inv h; obtain ⟨c11, e12, rfl, h⟩ := h
  replace h := popA_inv h; obtain ⟨v13, c14, rfl, h⟩ := h
  replace h := asS_inv h; obtain ⟨z15, rfl, h⟩ := h
  replace h := popA_inv h; obtain ⟨v16, c17, rfl, h⟩ := h
  replace h := asI_inv h; obtain ⟨z18, rfl, h⟩ := h
  replace h := popA_inv h; obtain ⟨v19, c20, rfl, h⟩ := h
  replace h := asI_inv h; obtain ⟨z21, rfl, h⟩ := h
  replace h := popA_inv h; obtain ⟨v22, c23, rfl, h⟩ := h
  replace h := asS_inv h; obtain ⟨z24, rfl, h⟩ := h
  replace h := popA_inv h; obtain ⟨v25, c26, rfl, h⟩ := h
  replace h := asI_inv h; obtain ⟨z27, rfl, h⟩ := h
  replace h := popN_inv h; obtain ⟨rfl, h⟩ := h
  replace h := popB_inv h; obtain ⟨c28, e29, rfl, h⟩ := h
  replace h := popA_inv h; obtain ⟨v30, c31, rfl, h⟩ := h
  replace h := asI_inv h; obtain ⟨z32, rfl, h⟩ := h
  replace h := popA_inv h; obtain ⟨v33, c34, rfl, h⟩ := h
  replace h := asI_inv h; obtain ⟨z35, rfl, h⟩ := h
  replace h := popA_inv h; obtain ⟨v36, c37, rfl, h⟩ := h
  replace h := asS_inv h; obtain ⟨z38, rfl, h⟩ := h
  replace h := popN_inv h; obtain ⟨rfl, h⟩ := h
  replace h := popN_inv h; obtain ⟨rfl, h⟩ := h
  exact (cadastrelaw5_CastExact_j14_eq2 k K l0 i3 wrong10 (⟨z15, (⟨z18, z21, z24⟩ : S23), z27⟩ : S25) (⟨z32, z35, z38⟩ : S23)).trans h
theorem cadastrelaw5_CastExact_cok {ρ : Type} (k : Nat) : COK (cadastrelaw5_CastExact_cfg (ρ := ρ) k) (cadastrelaw5_CastExact_G k) cadastrelaw5_CastExact_code :=
  cok_of (tl := [(2, cadastrelaw5_CastExact_l2_s k)]) (tj := [(14, cadastrelaw5_CastExact_j14_s k), (11, cadastrelaw5_CastExact_j11_s k), (4, cadastrelaw5_CastExact_j4_s k)]) (tb := []) rfl rfl rfl (all_nth 1 (by kernel_rfl) ⟨iter_case (by kernel_rfl) rfl (cadastrelaw5_CastExact_l2_ok0 k), trivial⟩) (all_nth 3 (by kernel_rfl) ⟨join_case (by kernel_rfl) rfl (cadastrelaw5_CastExact_j14_ok2 k), join_case (by kernel_rfl) rfl (cadastrelaw5_CastExact_j11_ok1 k), join_case (by kernel_rfl) rfl (cadastrelaw5_CastExact_j4_ok0 k), trivial⟩) (fun p hp => by cases hp)
noncomputable def cadastrelaw5_CastExact_enc (r : Bool) : AV UU := .pv (.bool r)
noncomputable def cadastrelaw5_CastExact_dec (v : AV UU) (_ : List (List (AV UU))) : Option Bool :=
asB v fun r0 =>
some r0
theorem cadastrelaw5_CastExact_dec_enc (v : AV UU) (b : List (List (AV UU))) (r : Bool) (h : cadastrelaw5_CastExact_dec v b = some r) : v = cadastrelaw5_CastExact_enc r := by
  unfold cadastrelaw5_CastExact_dec at h
  replace h := asB_inv h; obtain ⟨r0, rfl, h⟩ := h
  cases h
  rfl
theorem cadastrelaw5_CastExact_eq (k : Nat) (l0 : List S25) : bodyK UX (cadastrelaw5_CastExact_cfg k) (cadastrelaw5_CastExact_G k) Tryd.f3 [.pv (.typ (.l25 l0))] [] cadastrelaw5_CastExact_dec = cadastrelaw5_CastExact k l0 := by kernel_rfl
theorem cadastrelaw5_CastExact_con (k : Nat) (l0 : List S25) (r : Bool) (h : cadastrelaw5_CastExact k l0 = some r) : Con (X := UX) Tryd.prog 3 [.pv (.typ (.l25 l0))] [] (cadastrelaw5_CastExact_enc r) [] :=
  con_of_body xok tok Tryd.func3 cadastrelaw5_CastExact_body (cadastrelaw5_CastExact_gok k) rfl (cadastrelaw5_CastExact_cok k) (of_decide_eq_true (by kernel_rfl)) cadastrelaw5_CastExact_dec_enc ((cadastrelaw5_CastExact_eq k l0).trans h)
noncomputable def cadastrelaw5_CastExact_an {ρ : Type} (k : Nat) : An UX ρ := fun args bx K =>
popA args fun v1 a2 =>
as_l25 v1 fun l0 =>
popN a2 <|
popN bx <|
(cadastrelaw5_CastExact k l0).bind fun r => K (cadastrelaw5_CastExact_enc r) []
theorem cadastrelaw5_CastExact_ok {ρ : Type} (k : Nat) : AnsOK Tryd.prog 3 (cadastrelaw5_CastExact_an (ρ := ρ) k) := by
  intro args bx K r h
  unfold cadastrelaw5_CastExact_an at h
  replace h := popA_inv h; obtain ⟨v1, a2, rfl, h⟩ := h
  replace h := as_l25_inv h; obtain ⟨l0, rfl, h⟩ := h
  replace h := popN_inv h; obtain ⟨rfl, h⟩ := h
  replace h := popN_inv h; obtain ⟨rfl, h⟩ := h
  replace h := bind_inv h
  obtain ⟨x, hx, h⟩ := h
  exact ⟨there_of Tryd.func3 (by kernel_rfl) cadastrelaw5_CastExact_body, _, _, h, cadastrelaw5_CastExact_con k l0 x hx⟩
end Go.Proofs.YtdfmfpbdggefpaaDoor.D
