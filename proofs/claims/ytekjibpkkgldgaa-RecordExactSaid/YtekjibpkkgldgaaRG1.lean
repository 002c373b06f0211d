/-
  What the program's functions answer: the printed functions' answers.
-/
import Derived.Test.YtekjibpkkgldgaaRG0
namespace Go.Proofs.Ytekjibpkkgldgaa.R
open Go Go.AX
/-! cadastre/cadastreref6.Encode -/
noncomputable def cadastreref6_Encode_code : Code := match Try.f22.body with | some c => c | none => .skip
theorem cadastreref6_Encode_body : Try.f22.body = some cadastreref6_Encode_code := by kernel_rfl
noncomputable def cadastreref6_Encode_G {ρ : Type} (k : Nat) : Ans UX ρ := gk 49 (cadastreref2_All_an k) (gk 56 (cadastreref6_Record_an k) (gnil))
theorem cadastreref6_Encode_gok {ρ : Type} (k : Nat) : GOK Try.prog (cadastreref6_Encode_G (ρ := ρ) k) := gok_cons (cadastreref2_All_ok k) (gok_cons (cadastreref6_Record_ok k) (gok_nil))
noncomputable def cadastreref6_Encode_cfg {ρ : Type} (k : Nat) : Cfg UX ρ where
  live i := (assoc [(0, [0]), (1, [0]), (2, []), (3, [0]), (4, []), (5, [0]), (6, [4]), (7, []), (8, [4])] i).getD []
  boxes i := (assoc [(0, []), (1, []), (2, []), (3, []), (4, []), (5, []), (6, []), (7, []), (8, [])] i).getD []
  tk i := (assoc [(1000000, [2])] i).getD []
  n := 17
  labelR l := (assoc [] l).getD 0
  loops := assoc []
  labels := assoc []
  joins := assoc []
  xl i e := match e with
    | .nxt => assoc [] i
    | .ret => assoc [] i
    | .exit j => (assoc [] i).bind fun l => assoc l j
    | .goto j => (assoc [] i).bind fun l => assoc l j
noncomputable def cadastreref6_Encode_L : List Code := selI [] (loopsOf cadastreref6_Encode_code)
noncomputable def cadastreref6_Encode_J : List Code := selI [] (joinsOf cadastreref6_Encode_code)
noncomputable def cadastreref6_Encode_S : List Code := scopesOf cadastreref6_Encode_code
theorem cadastreref6_Encode_cok {ρ : Type} (k : Nat) : COK (cadastreref6_Encode_cfg (ρ := ρ) k) (cadastreref6_Encode_G k) cadastreref6_Encode_code :=
  cok_of (tl := []) (tj := []) (tb := []) rfl rfl rfl (nil_all (by kernel_rfl)) (nil_all (by kernel_rfl)) (fun p hp => by cases hp)
noncomputable def cadastreref6_Encode_enc (r : (List Int) × Int) : AV UU := .pv (.tup [.typ (.li_u8 r.1), .int .i64 r.2])
noncomputable def cadastreref6_Encode_dec (v : AV UU) (_ : List (List (AV UU))) : Option ((List Int) × Int) :=
asT v fun q1 =>
popA q1 fun p2 q3 =>
as_li_u8 (.pv p2) fun r0 =>
popA q3 fun p4 q5 =>
asI .i64 (.pv p4) fun r1 =>
popN q5 <|
some (r0, r1)
theorem cadastreref6_Encode_dec_enc (v : AV UU) (b : List (List (AV UU))) (r : (List Int) × Int) (h : cadastreref6_Encode_dec v b = some r) : v = cadastreref6_Encode_enc r := by
  unfold cadastreref6_Encode_dec at h
  replace h := asT_inv h; obtain ⟨q1, rfl, h⟩ := h
  replace h := popA_inv h; obtain ⟨p2, q3, rfl, h⟩ := h
  replace h := as_li_u8_inv h; obtain ⟨r0, e, h⟩ := h; cases e
  replace h := popA_inv h; obtain ⟨p4, q5, rfl, h⟩ := h
  replace h := asI_inv h; obtain ⟨r1, e, h⟩ := h; cases e
  replace h := popN_inv h; obtain ⟨rfl, h⟩ := h
  cases h
  rfl
theorem cadastreref6_Encode_eq (k : Nat) (l0 : List S44) : bodyK UX (cadastreref6_Encode_cfg k) (cadastreref6_Encode_G k) Try.f22 [.pv (.typ (.l44 l0))] [] cadastreref6_Encode_dec = cadastreref6_Encode k l0 := by kernel_rfl
theorem cadastreref6_Encode_con (k : Nat) (l0 : List S44) (r : (List Int) × Int) (h : cadastreref6_Encode k l0 = some r) : Con (X := UX) Try.prog 22 [.pv (.typ (.l44 l0))] [] (cadastreref6_Encode_enc r) [] :=
  con_of_body xok tok Try.func22 cadastreref6_Encode_body (cadastreref6_Encode_gok k) rfl (cadastreref6_Encode_cok k) (of_decide_eq_true (by kernel_rfl)) cadastreref6_Encode_dec_enc ((cadastreref6_Encode_eq k l0).trans h)
noncomputable def cadastreref6_Encode_an {ρ : Type} (k : Nat) : An UX ρ := fun args bx K =>
popA args fun v1 a2 =>
as_l44 v1 fun l0 =>
popN a2 <|
popN bx <|
(cadastreref6_Encode k l0).bind fun r => K (cadastreref6_Encode_enc r) []
theorem cadastreref6_Encode_ok {ρ : Type} (k : Nat) : AnsOK Try.prog 22 (cadastreref6_Encode_an (ρ := ρ) k) := by
  intro args bx K r h
  unfold cadastreref6_Encode_an at h
  replace h := popA_inv h; obtain ⟨v1, a2, rfl, h⟩ := h
  replace h := as_l44_inv h; obtain ⟨l0, rfl, h⟩ := h
  replace h := popN_inv h; obtain ⟨rfl, h⟩ := h
  replace h := popN_inv h; obtain ⟨rfl, h⟩ := h
  replace h := bind_inv h
  obtain ⟨x, hx, h⟩ := h
  exact ⟨there_of Try.func22 (by kernel_rfl) cadastreref6_Encode_body, _, _, h, cadastreref6_Encode_con k l0 x hx⟩

/-! cadastre/cadastreref0.CopyValues -/
noncomputable def cadastreref0_CopyValues_code : Code := match Try.f44.body with | some c => c | none => .skip
theorem cadastreref0_CopyValues_body : Try.f44.body = some cadastreref0_CopyValues_code := by kernel_rfl
noncomputable def cadastreref0_CopyValues_G {ρ : Type} (k : Nat) : Ans UX ρ := gnil
theorem cadastreref0_CopyValues_gok {ρ : Type} (k : Nat) : GOK Try.prog (cadastreref0_CopyValues_G (ρ := ρ) k) := gok_nil
noncomputable def cadastreref0_CopyValues_l3_s {ρ : Type} (k : Nat) : Run UX ρ := fun s K =>
popS 0 s.env fun v1 e2 =>
as_l44 v1 fun l0 =>
popS 3 e2 fun v3 e4 =>
asO_l44 v3 fun m3 =>
popS 4 e4 fun v5 e6 =>
asI .i64 v5 fun i4 =>
popN e6 <|
popN s.hp <|
cadastreref0_CopyValues_l3 k (fun m3 => K (.exit 0) ⟨[(3, .own (.l44 m3))], []⟩) k l0 m3 i4
noncomputable def cadastreref0_CopyValues_cfg {ρ : Type} (k : Nat) : Cfg UX ρ where
  live i := (assoc [(0, [0]), (1, [0]), (2, [0, 3]), (3, [0, 3, 4]), (4, [0, 3, 4]), (5, [0, 3, 4]), (6, [3])] i).getD []
  boxes i := (assoc [(0, []), (1, []), (2, []), (3, []), (4, []), (5, []), (6, [])] i).getD []
  tk i := (assoc [(1000000, [2, 3])] i).getD []
  n := 19
  labelR l := (assoc [] l).getD 0
  loops := assoc [(3, cadastreref0_CopyValues_l3_s k)]
  labels := assoc []
  joins := assoc []
  xl i e := match e with
    | .nxt => assoc [] i
    | .ret => assoc [] i
    | .exit j => (assoc [(3, [(0, ([3], []))])] i).bind fun l => assoc l j
    | .goto j => (assoc [] i).bind fun l => assoc l j
noncomputable def cadastreref0_CopyValues_L : List Code := selI [3] (loopsOf cadastreref0_CopyValues_code)
noncomputable def cadastreref0_CopyValues_J : List Code := selI [] (joinsOf cadastreref0_CopyValues_code)
noncomputable def cadastreref0_CopyValues_S : List Code := scopesOf cadastreref0_CopyValues_code
theorem cadastreref0_CopyValues_l3_eq0 {ρ : Type} (k : Nat) (K : Ex → St UU → Option ρ) : ∀ (n : Nat) (v : (List S44) × (List S44) × Int), iterK UX (fun s => s.at (cadastreref0_CopyValues_cfg (ρ := ρ) k).live (cadastreref0_CopyValues_cfg (ρ := ρ) k).boxes (some 3)) (exec UX (cadastreref0_CopyValues_cfg k) (cadastreref0_CopyValues_G k) (cadastreref0_CopyValues_L.getD 0 .skip)) n ⟨[(0, .pv (.typ (.l44 v.1))), (3, .own (.l44 v.2.1)), (4, .pv (.int .i64 v.2.2))], []⟩ (nrmK UX (cadastreref0_CopyValues_cfg k) 3 K) = cadastreref0_CopyValues_l3 k (fun m3 => K (.exit 0) ⟨[(3, .own (.l44 m3))], []⟩) n v.1 v.2.1 v.2.2 :=
  iter_rec (X := UX) (fun v => ⟨[(0, .pv (.typ (.l44 v.1))), (3, .own (.l44 v.2.1)), (4, .pv (.int .i64 v.2.2))], []⟩) (fun rec v => cadastreref0_CopyValues_l3_b k (fun m3 => K (.exit 0) ⟨[(3, .own (.l44 m3))], []⟩) (fun l0 m3 i4 => rec (l0, m3, i4)) v.1 v.2.1 v.2.2) (fun n v => cadastreref0_CopyValues_l3 k (fun m3 => K (.exit 0) ⟨[(3, .own (.l44 m3))], []⟩) n v.1 v.2.1 v.2.2) (fun n v => by kernel_rfl) (fun _ => rfl) (fun _ _ => rfl)
theorem cadastreref0_CopyValues_l3_ok0 {ρ : Type} (k : Nat) : IterOK UX (cadastreref0_CopyValues_cfg (ρ := ρ) k) (cadastreref0_CopyValues_G k) (cadastreref0_CopyValues_L.getD 0 .skip) 3 (cadastreref0_CopyValues_l3_s k) := by
  intro s K r h
  obtain ⟨env, hp⟩ := s
  unfold cadastreref0_CopyValues_l3_s at h
  replace h := popS_inv h; obtain ⟨v1, e2, rfl, h⟩ := h
  replace h := as_l44_inv h; obtain ⟨l0, rfl, h⟩ := h
  replace h := popS_inv h; obtain ⟨v3, e4, rfl, h⟩ := h
  replace h := asO_l44_inv h; obtain ⟨m3, rfl, h⟩ := h
  replace h := popS_inv h; obtain ⟨v5, e6, rfl, h⟩ := h
  replace h := asI_inv h; obtain ⟨i4, rfl, h⟩ := h
  replace h := popN_inv h; obtain ⟨rfl, h⟩ := h
  replace h := popN_inv h; obtain ⟨rfl, h⟩ := h
  exact ⟨k, (cadastreref0_CopyValues_l3_eq0 k K k (l0, m3, i4)).trans h⟩
theorem cadastreref0_CopyValues_cok {ρ : Type} (k : Nat) : COK (cadastreref0_CopyValues_cfg (ρ := ρ) k) (cadastreref0_CopyValues_G k) cadastreref0_CopyValues_code :=
  cok_of (tl := [(3, cadastreref0_CopyValues_l3_s k)]) (tj := []) (tb := []) rfl rfl rfl (all_nth 1 (by kernel_rfl) ⟨iter_case (by kernel_rfl) rfl (cadastreref0_CopyValues_l3_ok0 k), trivial⟩) (nil_all (by kernel_rfl)) (fun p hp => by cases hp)
noncomputable def cadastreref0_CopyValues_enc (r : (List S44)) : AV UU := .own (.l44 r)
noncomputable def cadastreref0_CopyValues_dec (v : AV UU) (_ : List (List (AV UU))) : Option (List S44) :=
asO_l44 v fun r =>
some r
theorem cadastreref0_CopyValues_dec_enc (v : AV UU) (b : List (List (AV UU))) (r : (List S44)) (h : cadastreref0_CopyValues_dec v b = some r) : v = cadastreref0_CopyValues_enc r := by
  unfold cadastreref0_CopyValues_dec at h
  replace h := asO_l44_inv h; obtain ⟨r, rfl, h⟩ := h
  cases h
  rfl
theorem cadastreref0_CopyValues_eq (k : Nat) (l0 : List S44) : bodyK UX (cadastreref0_CopyValues_cfg k) (cadastreref0_CopyValues_G k) Try.f44 [.pv (.typ (.l44 l0))] [] cadastreref0_CopyValues_dec = cadastreref0_CopyValues k l0 := by kernel_rfl
theorem cadastreref0_CopyValues_con (k : Nat) (l0 : List S44) (r : (List S44)) (h : cadastreref0_CopyValues k l0 = some r) : Con (X := UX) Try.prog 44 [.pv (.typ (.l44 l0))] [] (cadastreref0_CopyValues_enc r) [] :=
  con_of_body xok tok Try.func44 cadastreref0_CopyValues_body (cadastreref0_CopyValues_gok k) rfl (cadastreref0_CopyValues_cok k) (of_decide_eq_true (by kernel_rfl)) cadastreref0_CopyValues_dec_enc ((cadastreref0_CopyValues_eq k l0).trans h)
noncomputable def cadastreref0_CopyValues_an {ρ : Type} (k : Nat) : An UX ρ := fun args bx K =>
popA args fun v1 a2 =>
as_l44 v1 fun l0 =>
popN a2 <|
popN bx <|
(cadastreref0_CopyValues k l0).bind fun r => K (cadastreref0_CopyValues_enc r) []
theorem cadastreref0_CopyValues_ok {ρ : Type} (k : Nat) : AnsOK Try.prog 44 (cadastreref0_CopyValues_an (ρ := ρ) k) := by
  intro args bx K r h
  unfold cadastreref0_CopyValues_an at h
  replace h := popA_inv h; obtain ⟨v1, a2, rfl, h⟩ := h
  replace h := as_l44_inv h; obtain ⟨l0, rfl, h⟩ := h
  replace h := popN_inv h; obtain ⟨rfl, h⟩ := h
  replace h := popN_inv h; obtain ⟨rfl, h⟩ := h
  replace h := bind_inv h
  obtain ⟨x, hx, h⟩ := h
  exact ⟨there_of Try.func44 (by kernel_rfl) cadastreref0_CopyValues_body, _, _, h, cadastreref0_CopyValues_con k l0 x hx⟩

/-! cadastre/value.Good -/
noncomputable def value_Good_code : Code := match Try.f71.body with | some c => c | none => .skip
theorem value_Good_body : Try.f71.body = some value_Good_code := by kernel_rfl
noncomputable def value_Good_G {ρ : Type} (k : Nat) : Ans UX ρ := gnil
theorem value_Good_gok {ρ : Type} (k : Nat) : GOK Try.prog (value_Good_G (ρ := ρ) k) := gok_nil
noncomputable def value_Good_j8_s {ρ : Type} (k : Nat) : Run UX ρ := fun s K =>
popS 1 s.env fun v1 e2 =>
asP 1 0 v1 <|
popN e2 <|
popB 1 s.hp fun c3 e4 =>
popA c3 fun v5 c6 =>
asI .i64 v5 fun z7 =>
popA c6 fun v8 c9 =>
asI .i64 v8 fun z10 =>
popA c9 fun v11 c12 =>
asS v11 fun z13 =>
popN c12 <|
popN e4 <|
value_Good_j8 k (fun t2 => K .ret ⟨[(2, .pv (.bool t2))], []⟩) (⟨z7, z10, z13⟩ : S44)
noncomputable def value_Good_cfg {ρ : Type} (k : Nat) : Cfg UX ρ where
  live i := (assoc [(0, [0]), (1, [1]), (2, [1, 4]), (3, [1]), (4, [1, 4]), (5, [1]), (6, [1, 4]), (7, [1, 4]), (8, [1]), (9, [])] i).getD []
  boxes i := (assoc [(0, []), (1, [1]), (2, [1]), (3, [1]), (4, [1]), (5, [1]), (6, [1]), (7, [1]), (8, [1]), (9, [])] i).getD []
  tk i := (assoc [] i).getD []
  n := 27
  labelR l := (assoc [] l).getD 0
  loops := assoc []
  labels := assoc []
  joins := assoc [(8, value_Good_j8_s k)]
  xl i e := match e with
    | .nxt => assoc [] i
    | .ret => assoc [(8, ([2], []))] i
    | .exit j => (assoc [] i).bind fun l => assoc l j
    | .goto j => (assoc [] i).bind fun l => assoc l j
noncomputable def value_Good_L : List Code := selI [] (loopsOf value_Good_code)
noncomputable def value_Good_J : List Code := selI [8] (joinsOf value_Good_code)
noncomputable def value_Good_S : List Code := scopesOf value_Good_code
theorem value_Good_j8_eq0 {ρ : Type} (k : Nat) (K : Ex → St UU → Option ρ) (v1 : S44) : exec UX (value_Good_cfg k) (value_Good_G k) (value_Good_J.getD 0 .skip) ⟨[(1, .ptr 1 0)], [(1, [.pv (.int .i64 v1.f0), .pv (.int .i64 v1.f1), .pv (.str v1.f2)])]⟩ (nrmK UX (value_Good_cfg k) 8 K) = value_Good_j8 k (fun t2 => K .ret ⟨[(2, .pv (.bool t2))], []⟩) v1 := by kernel_rfl
theorem value_Good_j8_ok0 {ρ : Type} (k : Nat) : JoinOK UX (value_Good_cfg (ρ := ρ) k) (value_Good_G k) (value_Good_J.getD 0 .skip) 8 (value_Good_j8_s k) := by
  intro s K r h
  obtain ⟨env, hp⟩ := s
  unfold value_Good_j8_s at h
  replace h := popS_inv h; obtain ⟨v1, e2, rfl, h⟩ := h
  replace h := asP_inv h; obtain ⟨rfl, h⟩ := h
  replace h := popN_inv h; obtain ⟨rfl, h⟩ := h
  replace h := popB_inv h; obtain ⟨c3, e4, rfl, h⟩ := h
  replace h := popA_inv h; obtain ⟨v5, c6, rfl, h⟩ := h
  replace h := asI_inv h; obtain ⟨z7, rfl, h⟩ := h
  replace h := popA_inv h; obtain ⟨v8, c9, rfl, h⟩ := h
  replace h := asI_inv h; obtain ⟨z10, rfl, h⟩ := h
  replace h := popA_inv h; obtain ⟨v11, c12, rfl, h⟩ := h
  replace h := asS_inv h; obtain ⟨z13, rfl, h⟩ := h
  replace h := popN_inv h; obtain ⟨rfl, h⟩ := h
  replace h := popN_inv h; obtain ⟨rfl, h⟩ := h
  exact (value_Good_j8_eq0 k K (⟨z7, z10, z13⟩ : S44)).trans h
theorem value_Good_cok {ρ : Type} (k : Nat) : COK (value_Good_cfg (ρ := ρ) k) (value_Good_G k) value_Good_code :=
  cok_of (tl := []) (tj := [(8, value_Good_j8_s k)]) (tb := []) rfl rfl rfl (nil_all (by kernel_rfl)) (all_nth 1 (by kernel_rfl) ⟨join_case (by kernel_rfl) rfl (value_Good_j8_ok0 k), trivial⟩) (fun p hp => by cases hp)
noncomputable def value_Good_enc (r : Bool) : AV UU := .pv (.bool r)
noncomputable def value_Good_dec (v : AV UU) (_ : List (List (AV UU))) : Option Bool :=
asB v fun r0 =>
some r0
theorem value_Good_dec_enc (v : AV UU) (b : List (List (AV UU))) (r : Bool) (h : value_Good_dec v b = some r) : v = value_Good_enc r := by
  unfold value_Good_dec at h
  replace h := asB_inv h; obtain ⟨r0, rfl, h⟩ := h
  cases h
  rfl
theorem value_Good_eq (k : Nat) (v0 : S44) : bodyK UX (value_Good_cfg k) (value_Good_G k) Try.f71 [.pv (.typ (.s44 v0))] [] value_Good_dec = value_Good k v0 := by kernel_rfl
theorem value_Good_con (k : Nat) (v0 : S44) (r : Bool) (h : value_Good k v0 = some r) : Con (X := UX) Try.prog 71 [.pv (.typ (.s44 v0))] [] (value_Good_enc r) [] :=
  con_of_body xok tok Try.func71 value_Good_body (value_Good_gok k) rfl (value_Good_cok k) (of_decide_eq_true (by kernel_rfl)) value_Good_dec_enc ((value_Good_eq k v0).trans h)
noncomputable def value_Good_an {ρ : Type} (k : Nat) : An UX ρ := fun args bx K =>
popA args fun v1 a2 =>
as_s44 v1 fun v0 =>
popN a2 <|
popN bx <|
(value_Good k v0).bind fun r => K (value_Good_enc r) []
theorem value_Good_ok {ρ : Type} (k : Nat) : AnsOK Try.prog 71 (value_Good_an (ρ := ρ) k) := by
  intro args bx K r h
  unfold value_Good_an at h
  replace h := popA_inv h; obtain ⟨v1, a2, rfl, h⟩ := h
  replace h := as_s44_inv h; obtain ⟨v0, rfl, h⟩ := h
  replace h := popN_inv h; obtain ⟨rfl, h⟩ := h
  replace h := popN_inv h; obtain ⟨rfl, h⟩ := h
  replace h := bind_inv h
  obtain ⟨x, hx, h⟩ := h
  exact ⟨there_of Try.func71 (by kernel_rfl) value_Good_body, _, _, h, value_Good_con k v0 x hx⟩

/-! cadastre/value.All -/
noncomputable def value_All_code : Code := match Try.f53.body with | some c => c | none => .skip
theorem value_All_body : Try.f53.body = some value_All_code := by kernel_rfl
noncomputable def value_All_G {ρ : Type} (k : Nat) : Ans UX ρ := gk 71 (value_Good_an k) (gnil)
theorem value_All_gok {ρ : Type} (k : Nat) : GOK Try.prog (value_All_G (ρ := ρ) k) := gok_cons (value_Good_ok k) (gok_nil)
noncomputable def value_All_j2_s {ρ : Type} (k : Nat) : Run UX ρ := fun s K =>
popS 0 s.env fun v1 e2 =>
as_l44 v1 fun l0 =>
popS 3 e2 fun v3 e4 =>
asI .i64 v3 fun i3 =>
popN e4 <|
popN s.hp <|
value_All_j2 k (fun t2 => K .ret ⟨[(2, .pv (.bool t2))], []⟩) (fun l0 i3 => K (.goto 0) ⟨[(0, .pv (.typ (.l44 l0))), (3, .pv (.int .i64 i3))], []⟩) l0 i3
noncomputable def value_All_g0_s {ρ : Type} (k : Nat) : Run UX ρ := fun s K =>
popS 0 s.env fun v1 e2 =>
as_l44 v1 fun l0 =>
popS 3 e2 fun v3 e4 =>
asI .i64 v3 fun i3 =>
popN e4 <|
popN s.hp <|
value_All_g0 k (fun t2 => K .ret ⟨[(2, .pv (.bool t2))], []⟩) k l0 i3
noncomputable def value_All_cfg {ρ : Type} (k : Nat) : Cfg UX ρ where
  live i := (assoc [(0, [0]), (1, [0]), (2, [0, 3]), (3, []), (4, [0, 3]), (5, [0, 3]), (6, [])] i).getD []
  boxes i := (assoc [(0, []), (1, []), (2, []), (3, []), (4, []), (5, []), (6, [])] i).getD []
  tk i := (assoc [] i).getD []
  n := 15
  labelR l := (assoc [(0, 2)] l).getD 0
  loops := assoc []
  labels := assoc [(0, value_All_g0_s k)]
  joins := assoc [(2, value_All_j2_s k)]
  xl i e := match e with
    | .nxt => assoc [] i
    | .ret => assoc [(2, ([2], [])), (2, ([2], []))] i
    | .exit j => (assoc [] i).bind fun l => assoc l j
    | .goto j => (assoc [(2, [(0, ([0, 3], []))])] i).bind fun l => assoc l j
noncomputable def value_All_L : List Code := selI [] (loopsOf value_All_code)
noncomputable def value_All_J : List Code := selI [2] (joinsOf value_All_code)
noncomputable def value_All_S : List Code := scopesOf value_All_code
theorem value_All_j2_eq0 {ρ : Type} (k : Nat) (K : Ex → St UU → Option ρ) (l0 : List S44) (i3 : Int) : exec UX (value_All_cfg k) (value_All_G k) (value_All_J.getD 0 .skip) ⟨[(0, .pv (.typ (.l44 l0))), (3, .pv (.int .i64 i3))], []⟩ (nrmK UX (value_All_cfg k) 2 K) = value_All_j2 k (fun t2 => K .ret ⟨[(2, .pv (.bool t2))], []⟩) (fun l0 i3 => K (.goto 0) ⟨[(0, .pv (.typ (.l44 l0))), (3, .pv (.int .i64 i3))], []⟩) l0 i3 := by kernel_rfl
theorem value_All_j2_ok0 {ρ : Type} (k : Nat) : JoinOK UX (value_All_cfg (ρ := ρ) k) (value_All_G k) (value_All_J.getD 0 .skip) 2 (value_All_j2_s k) := by
  intro s K r h
  obtain ⟨env, hp⟩ := s
  unfold value_All_j2_s at h
  replace h := popS_inv h; obtain ⟨v1, e2, rfl, h⟩ := h
  replace h := as_l44_inv h; obtain ⟨l0, rfl, h⟩ := h
  replace h := popS_inv h; obtain ⟨v3, e4, rfl, h⟩ := h
  replace h := asI_inv h; obtain ⟨i3, rfl, h⟩ := h
  replace h := popN_inv h; obtain ⟨rfl, h⟩ := h
  replace h := popN_inv h; obtain ⟨rfl, h⟩ := h
  exact (value_All_j2_eq0 k K l0 i3).trans h
noncomputable def value_All_g0_f0 {ρ : Type} (k : Nat) : Run UX ρ := (suff UX (value_All_cfg k) (value_All_G k) (value_All_S.getD 0 .skip) 0).getD fun _ _ => none
theorem value_All_g0_eq0 {ρ : Type} (k : Nat) (K : Ex → St UU → Option ρ) : ∀ (n : Nat) (v : (List S44) × Int), scopeN UX (fun l s => s.at (value_All_cfg (ρ := ρ) k).live (value_All_cfg (ρ := ρ) k).boxes (some ((value_All_cfg (ρ := ρ) k).labelR l))) (suff UX (value_All_cfg k) (value_All_G k) (value_All_S.getD 0 .skip)) (fun l => ((value_All_cfg (ρ := ρ) k).labels l).isSome) n (value_All_g0_f0 k) ⟨[(0, .pv (.typ (.l44 v.1))), (3, .pv (.int .i64 v.2))], []⟩ (nrmK UX (value_All_cfg k) ((value_All_cfg (ρ := ρ) k).labelR 0) K) = value_All_g0 k (fun t2 => K .ret ⟨[(2, .pv (.bool t2))], []⟩) n v.1 v.2 :=
  scope_rec (X := UX) (fun _ => value_All_g0_f0 k) (fun v => ⟨[(0, .pv (.typ (.l44 v.1))), (3, .pv (.int .i64 v.2))], []⟩) (fun rec v => value_All_g0_b k (fun t2 => K .ret ⟨[(2, .pv (.bool t2))], []⟩) (fun l0 i3 => rec (l0, i3)) v.1 v.2) (fun n v => value_All_g0 k (fun t2 => K .ret ⟨[(2, .pv (.bool t2))], []⟩) n v.1 v.2) (fun n v => by kernel_rfl) (fun _ => rfl) (fun _ _ => rfl)
theorem value_All_g0_ok0 {ρ : Type} (k : Nat) : LabOK UX (value_All_cfg (ρ := ρ) k) (value_All_G k) (value_All_S.getD 0 .skip) 0 (value_All_g0_s k) := by
  intro f hf s K r h
  have hf : value_All_g0_f0 k = f := by unfold value_All_g0_f0; rw [hf]; rfl
  subst hf
  obtain ⟨env, hp⟩ := s
  unfold value_All_g0_s at h
  replace h := popS_inv h; obtain ⟨v1, e2, rfl, h⟩ := h
  replace h := as_l44_inv h; obtain ⟨l0, rfl, h⟩ := h
  replace h := popS_inv h; obtain ⟨v3, e4, rfl, h⟩ := h
  replace h := asI_inv h; obtain ⟨i3, rfl, h⟩ := h
  replace h := popN_inv h; obtain ⟨rfl, h⟩ := h
  replace h := popN_inv h; obtain ⟨rfl, h⟩ := h
  exact ⟨k, (value_All_g0_eq0 k K k (l0, i3)).trans h⟩
theorem value_All_cok {ρ : Type} (k : Nat) : COK (value_All_cfg (ρ := ρ) k) (value_All_G k) value_All_code :=
  cok_of (tl := []) (tj := [(2, value_All_j2_s k)]) (tb := [(0, value_All_g0_s k)]) rfl rfl rfl (nil_all (by kernel_rfl)) (all_nth 1 (by kernel_rfl) ⟨join_case (by kernel_rfl) rfl (value_All_j2_ok0 k), trivial⟩) (fun p hp => by
    simp only [List.mem_cons, List.not_mem_nil, or_false] at hp
    subst hp
    · exact all_nth 1 (by kernel_rfl) ⟨value_All_g0_ok0 k, trivial⟩)
noncomputable def value_All_enc (r : Bool) : AV UU := .pv (.bool r)
noncomputable def value_All_dec (v : AV UU) (_ : List (List (AV UU))) : Option Bool :=
asB v fun r0 =>
some r0
theorem value_All_dec_enc (v : AV UU) (b : List (List (AV UU))) (r : Bool) (h : value_All_dec v b = some r) : v = value_All_enc r := by
  unfold value_All_dec at h
  replace h := asB_inv h; obtain ⟨r0, rfl, h⟩ := h
  cases h
  rfl
theorem value_All_eq (k : Nat) (l0 : List S44) : bodyK UX (value_All_cfg k) (value_All_G k) Try.f53 [.pv (.typ (.l44 l0))] [] value_All_dec = value_All k l0 := by kernel_rfl
theorem value_All_con (k : Nat) (l0 : List S44) (r : Bool) (h : value_All k l0 = some r) : Con (X := UX) Try.prog 53 [.pv (.typ (.l44 l0))] [] (value_All_enc r) [] :=
  con_of_body xok tok Try.func53 value_All_body (value_All_gok k) rfl (value_All_cok k) (of_decide_eq_true (by kernel_rfl)) value_All_dec_enc ((value_All_eq k l0).trans h)
noncomputable def value_All_an {ρ : Type} (k : Nat) : An UX ρ := fun args bx K =>
popA args fun v1 a2 =>
as_l44 v1 fun l0 =>
popN a2 <|
popN bx <|
(value_All k l0).bind fun r => K (value_All_enc r) []
theorem value_All_ok {ρ : Type} (k : Nat) : AnsOK Try.prog 53 (value_All_an (ρ := ρ) k) := by
  intro args bx K r h
  unfold value_All_an at h
  replace h := popA_inv h; obtain ⟨v1, a2, rfl, h⟩ := h
  replace h := as_l44_inv h; obtain ⟨l0, rfl, h⟩ := h
  replace h := popN_inv h; obtain ⟨rfl, h⟩ := h
  replace h := popN_inv h; obtain ⟨rfl, h⟩ := h
  replace h := bind_inv h
  obtain ⟨x, hx, h⟩ := h
  exact ⟨there_of Try.func53 (by kernel_rfl) value_All_body, _, _, h, value_All_con k l0 x hx⟩

/-! cadastre/varint.turned -/
noncomputable def varint_turned_o0_code : Code := match Try.f70.body with | some c => c | none => .skip
theorem varint_turned_o0_body : Try.f70.body = some varint_turned_o0_code := by kernel_rfl
noncomputable def varint_turned_o0_G {ρ : Type} (k : Nat) : Ans UX ρ := gnil
theorem varint_turned_o0_gok {ρ : Type} (k : Nat) : GOK Try.prog (varint_turned_o0_G (ρ := ρ) k) := gok_nil
noncomputable def varint_turned_o0_j2_s {ρ : Type} (k : Nat) : Run UX ρ := fun s K =>
popS 0 s.env fun v1 e2 =>
asO_li_u8 v1 fun b0 =>
popS 3 e2 fun v3 e4 =>
asI .i64 v3 fun i3 =>
popS 4 e4 fun v5 e6 =>
asI .i64 v5 fun k4 =>
popN e6 <|
popN s.hp <|
varint_turned_o0_j2 k (fun b0 i3 k4 => K (.goto 0) ⟨[(0, .own (.li_u8 b0)), (3, .pv (.int .i64 i3)), (4, .pv (.int .i64 k4))], []⟩) (fun t2 => K .ret ⟨[(2, .own (.li_u8 t2))], []⟩) b0 i3 k4
noncomputable def varint_turned_o0_g0_s {ρ : Type} (k : Nat) : Run UX ρ := fun s K =>
popS 0 s.env fun v1 e2 =>
asO_li_u8 v1 fun b0 =>
popS 3 e2 fun v3 e4 =>
asI .i64 v3 fun i3 =>
popS 4 e4 fun v5 e6 =>
asI .i64 v5 fun k4 =>
popN e6 <|
popN s.hp <|
varint_turned_o0_g0 k (fun t2 => K .ret ⟨[(2, .own (.li_u8 t2))], []⟩) k b0 i3 k4
noncomputable def varint_turned_o0_cfg {ρ : Type} (k : Nat) : Cfg UX ρ where
  live i := (assoc [(0, [0]), (1, [0]), (2, [0, 3, 4]), (3, [0, 3, 4]), (4, [0, 3, 4]), (5, [0, 3, 4]), (6, [0])] i).getD []
  boxes i := (assoc [(0, []), (1, []), (2, []), (3, []), (4, []), (5, []), (6, [])] i).getD []
  tk i := (assoc [(1000000, [2])] i).getD []
  n := 30
  labelR l := (assoc [(0, 2)] l).getD 0
  loops := assoc []
  labels := assoc [(0, varint_turned_o0_g0_s k)]
  joins := assoc [(2, varint_turned_o0_j2_s k)]
  xl i e := match e with
    | .nxt => assoc [] i
    | .ret => assoc [(2, ([2], [])), (2, ([2], []))] i
    | .exit j => (assoc [] i).bind fun l => assoc l j
    | .goto j => (assoc [(2, [(0, ([0, 3, 4], []))])] i).bind fun l => assoc l j
noncomputable def varint_turned_o0_L : List Code := selI [] (loopsOf varint_turned_o0_code)
noncomputable def varint_turned_o0_J : List Code := selI [2] (joinsOf varint_turned_o0_code)
noncomputable def varint_turned_o0_S : List Code := scopesOf varint_turned_o0_code
theorem varint_turned_o0_j2_eq0 {ρ : Type} (k : Nat) (K : Ex → St UU → Option ρ) (b0 : List Int) (i3 : Int) (k4 : Int) : exec UX (varint_turned_o0_cfg k) (varint_turned_o0_G k) (varint_turned_o0_J.getD 0 .skip) ⟨[(0, .own (.li_u8 b0)), (3, .pv (.int .i64 i3)), (4, .pv (.int .i64 k4))], []⟩ (nrmK UX (varint_turned_o0_cfg k) 2 K) = varint_turned_o0_j2 k (fun b0 i3 k4 => K (.goto 0) ⟨[(0, .own (.li_u8 b0)), (3, .pv (.int .i64 i3)), (4, .pv (.int .i64 k4))], []⟩) (fun t2 => K .ret ⟨[(2, .own (.li_u8 t2))], []⟩) b0 i3 k4 := by kernel_rfl
theorem varint_turned_o0_j2_ok0 {ρ : Type} (k : Nat) : JoinOK UX (varint_turned_o0_cfg (ρ := ρ) k) (varint_turned_o0_G k) (varint_turned_o0_J.getD 0 .skip) 2 (varint_turned_o0_j2_s k) := by
  intro s K r h
  obtain ⟨env, hp⟩ := s
  unfold varint_turned_o0_j2_s at h
  replace h := popS_inv h; obtain ⟨v1, e2, rfl, h⟩ := h
  replace h := asO_li_u8_inv h; obtain ⟨b0, rfl, h⟩ := h
  replace h := popS_inv h; obtain ⟨v3, e4, rfl, h⟩ := h
  replace h := asI_inv h; obtain ⟨i3, rfl, h⟩ := h
  replace h := popS_inv h; obtain ⟨v5, e6, rfl, h⟩ := h
  replace h := asI_inv h; obtain ⟨k4, rfl, h⟩ := h
  replace h := popN_inv h; obtain ⟨rfl, h⟩ := h
  replace h := popN_inv h; obtain ⟨rfl, h⟩ := h
  exact (varint_turned_o0_j2_eq0 k K b0 i3 k4).trans h
noncomputable def varint_turned_o0_g0_f0 {ρ : Type} (k : Nat) : Run UX ρ := (suff UX (varint_turned_o0_cfg k) (varint_turned_o0_G k) (varint_turned_o0_S.getD 0 .skip) 0).getD fun _ _ => none
theorem varint_turned_o0_g0_eq0 {ρ : Type} (k : Nat) (K : Ex → St UU → Option ρ) : ∀ (n : Nat) (v : (List Int) × Int × Int), scopeN UX (fun l s => s.at (varint_turned_o0_cfg (ρ := ρ) k).live (varint_turned_o0_cfg (ρ := ρ) k).boxes (some ((varint_turned_o0_cfg (ρ := ρ) k).labelR l))) (suff UX (varint_turned_o0_cfg k) (varint_turned_o0_G k) (varint_turned_o0_S.getD 0 .skip)) (fun l => ((varint_turned_o0_cfg (ρ := ρ) k).labels l).isSome) n (varint_turned_o0_g0_f0 k) ⟨[(0, .own (.li_u8 v.1)), (3, .pv (.int .i64 v.2.1)), (4, .pv (.int .i64 v.2.2))], []⟩ (nrmK UX (varint_turned_o0_cfg k) ((varint_turned_o0_cfg (ρ := ρ) k).labelR 0) K) = varint_turned_o0_g0 k (fun t2 => K .ret ⟨[(2, .own (.li_u8 t2))], []⟩) n v.1 v.2.1 v.2.2 :=
  scope_rec (X := UX) (fun _ => varint_turned_o0_g0_f0 k) (fun v => ⟨[(0, .own (.li_u8 v.1)), (3, .pv (.int .i64 v.2.1)), (4, .pv (.int .i64 v.2.2))], []⟩) (fun rec v => varint_turned_o0_g0_b k (fun t2 => K .ret ⟨[(2, .own (.li_u8 t2))], []⟩) (fun b0 i3 k4 => rec (b0, i3, k4)) v.1 v.2.1 v.2.2) (fun n v => varint_turned_o0_g0 k (fun t2 => K .ret ⟨[(2, .own (.li_u8 t2))], []⟩) n v.1 v.2.1 v.2.2) (fun n v => by kernel_rfl) (fun _ => rfl) (fun _ _ => rfl)
theorem varint_turned_o0_g0_ok0 {ρ : Type} (k : Nat) : LabOK UX (varint_turned_o0_cfg (ρ := ρ) k) (varint_turned_o0_G k) (varint_turned_o0_S.getD 0 .skip) 0 (varint_turned_o0_g0_s k) := by
  intro f hf s K r h
  have hf : varint_turned_o0_g0_f0 k = f := by unfold varint_turned_o0_g0_f0; rw [hf]; rfl
  subst hf
  obtain ⟨env, hp⟩ := s
  unfold varint_turned_o0_g0_s at h
  replace h := popS_inv h; obtain ⟨v1, e2, rfl, h⟩ := h
  replace h := asO_li_u8_inv h; obtain ⟨b0, rfl, h⟩ := h
  replace h := popS_inv h; obtain ⟨v3, e4, rfl, h⟩ := h
  replace h := asI_inv h; obtain ⟨i3, rfl, h⟩ := h
  replace h := popS_inv h; obtain ⟨v5, e6, rfl, h⟩ := h
  replace h := asI_inv h; obtain ⟨k4, rfl, h⟩ := h
  replace h := popN_inv h; obtain ⟨rfl, h⟩ := h
  replace h := popN_inv h; obtain ⟨rfl, h⟩ := h
  exact ⟨k, (varint_turned_o0_g0_eq0 k K k (b0, i3, k4)).trans h⟩
theorem varint_turned_o0_cok {ρ : Type} (k : Nat) : COK (varint_turned_o0_cfg (ρ := ρ) k) (varint_turned_o0_G k) varint_turned_o0_code :=
  cok_of (tl := []) (tj := [(2, varint_turned_o0_j2_s k)]) (tb := [(0, varint_turned_o0_g0_s k)]) rfl rfl rfl (nil_all (by kernel_rfl)) (all_nth 1 (by kernel_rfl) ⟨join_case (by kernel_rfl) rfl (varint_turned_o0_j2_ok0 k), trivial⟩) (fun p hp => by
    simp only [List.mem_cons, List.not_mem_nil, or_false] at hp
    subst hp
    · exact all_nth 1 (by kernel_rfl) ⟨varint_turned_o0_g0_ok0 k, trivial⟩)
noncomputable def varint_turned_o0_enc (r : (List Int)) : AV UU := .own (.li_u8 r)
noncomputable def varint_turned_o0_dec (v : AV UU) (_ : List (List (AV UU))) : Option (List Int) :=
asO_li_u8 v fun r =>
some r
theorem varint_turned_o0_dec_enc (v : AV UU) (b : List (List (AV UU))) (r : (List Int)) (h : varint_turned_o0_dec v b = some r) : v = varint_turned_o0_enc r := by
  unfold varint_turned_o0_dec at h
  replace h := asO_li_u8_inv h; obtain ⟨r, rfl, h⟩ := h
  cases h
  rfl
theorem varint_turned_o0_eq (k : Nat) (b0 : List Int) : bodyK UX (varint_turned_o0_cfg k) (varint_turned_o0_G k) Try.f70 [.own (.li_u8 b0)] [] varint_turned_o0_dec = varint_turned_o0 k b0 := by kernel_rfl
theorem varint_turned_o0_con (k : Nat) (b0 : List Int) (r : (List Int)) (h : varint_turned_o0 k b0 = some r) : Con (X := UX) Try.prog 70 [.own (.li_u8 b0)] [] (varint_turned_o0_enc r) [] :=
  con_of_body xok tok Try.func70 varint_turned_o0_body (varint_turned_o0_gok k) rfl (varint_turned_o0_cok k) (of_decide_eq_true (by kernel_rfl)) varint_turned_o0_dec_enc ((varint_turned_o0_eq k b0).trans h)
noncomputable def varint_turned_o0_an {ρ : Type} (k : Nat) : An UX ρ := fun args bx K =>
popA args fun v1 a2 =>
asO_li_u8 v1 fun b0 =>
popN a2 <|
popN bx <|
(varint_turned_o0 k b0).bind fun r => K (varint_turned_o0_enc r) []
theorem varint_turned_o0_ok {ρ : Type} (k : Nat) : AnsOK Try.prog 70 (varint_turned_o0_an (ρ := ρ) k) := by
  intro args bx K r h
  unfold varint_turned_o0_an at h
  replace h := popA_inv h; obtain ⟨v1, a2, rfl, h⟩ := h
  replace h := asO_li_u8_inv h; obtain ⟨b0, rfl, h⟩ := h
  replace h := popN_inv h; obtain ⟨rfl, h⟩ := h
  replace h := popN_inv h; obtain ⟨rfl, h⟩ := h
  replace h := bind_inv h
  obtain ⟨x, hx, h⟩ := h
  exact ⟨there_of Try.func70 (by kernel_rfl) varint_turned_o0_body, _, _, h, varint_turned_o0_con k b0 x hx⟩

/-! cadastre/varint.Put -/
noncomputable def varint_Put_code : Code := match Try.f50.body with | some c => c | none => .skip
theorem varint_Put_body : Try.f50.body = some varint_Put_code := by kernel_rfl
noncomputable def varint_Put_G {ρ : Type} (k : Nat) : Ans UX ρ := gk 70 (varint_turned_o0_an k) (gnil)
theorem varint_Put_gok {ρ : Type} (k : Nat) : GOK Try.prog (varint_Put_G (ρ := ρ) k) := gok_cons (varint_turned_o0_ok k) (gok_nil)
noncomputable def varint_Put_l6_s {ρ : Type} (k : Nat) : Run UX ρ := fun s K =>
popS 0 s.env fun v1 e2 =>
asI .u64 v1 fun n0 =>
popS 2 e2 fun v3 e4 =>
asO_li_u8 v3 fun b2 =>
popS 13 e4 fun v5 e6 =>
asI .i64 v5 fun t13 =>
popN e6 <|
popN s.hp <|
varint_Put_l6 k (fun b2 => K (.exit 0) ⟨[(2, .own (.li_u8 b2))], []⟩) k n0 b2 t13
noncomputable def varint_Put_j11_s {ρ : Type} (k : Nat) : Run UX ρ := fun s K =>
popS 0 s.env fun v1 e2 =>
asI .u64 v1 fun n0 =>
popS 2 e2 fun v3 e4 =>
asO_li_u8 v3 fun b2 =>
popS 3 e4 fun v5 e6 =>
asI .u8 v5 fun low3 =>
popN e6 <|
popN s.hp <|
varint_Put_j11 k (fun n0 b2 low3 => K (.goto 0) ⟨[(0, .pv (.int .u64 n0)), (2, .own (.li_u8 b2)), (3, .pv (.int .u8 low3))], []⟩) (fun b2 => K .ret ⟨[(2, .own (.li_u8 b2))], []⟩) n0 b2 low3
noncomputable def varint_Put_g0_s {ρ : Type} (k : Nat) : Run UX ρ := fun s K =>
popS 0 s.env fun v1 e2 =>
asI .u64 v1 fun n0 =>
popS 2 e2 fun v3 e4 =>
asO_li_u8 v3 fun b2 =>
popS 3 e4 fun v5 e6 =>
asI .u8 v5 fun low3 =>
popN e6 <|
popN s.hp <|
varint_Put_g0 k (fun b2 => K .ret ⟨[(2, .own (.li_u8 b2))], []⟩) k n0 b2 low3
noncomputable def varint_Put_cfg {ρ : Type} (k : Nat) : Cfg UX ρ where
  live i := (assoc [(0, [0]), (1, [0, 2]), (2, [0, 2, 3]), (3, [0, 2]), (4, [0, 2]), (5, [0, 2]), (6, [0, 2, 13]), (7, [0, 2, 13]), (8, [0, 2, 13]), (9, [0, 2, 13]), (10, [2]), (11, [0, 2, 3]), (12, [0, 2]), (13, [0, 2]), (14, [0, 2, 3]), (15, [2])] i).getD []
  boxes i := (assoc [(0, []), (1, []), (2, []), (3, []), (4, []), (5, []), (6, []), (7, []), (8, []), (9, []), (10, []), (11, []), (12, []), (13, []), (14, []), (15, [])] i).getD []
  tk i := (assoc [(70, [0]), (1000000, [2])] i).getD []
  n := 40
  labelR l := (assoc [(0, 11)] l).getD 0
  loops := assoc [(6, varint_Put_l6_s k)]
  labels := assoc [(0, varint_Put_g0_s k)]
  joins := assoc [(11, varint_Put_j11_s k)]
  xl i e := match e with
    | .nxt => assoc [] i
    | .ret => assoc [(11, ([2], [])), (11, ([2], []))] i
    | .exit j => (assoc [(6, [(0, ([2], []))])] i).bind fun l => assoc l j
    | .goto j => (assoc [(11, [(0, ([0, 2, 3], []))])] i).bind fun l => assoc l j
noncomputable def varint_Put_L : List Code := selI [6] (loopsOf varint_Put_code)
noncomputable def varint_Put_J : List Code := selI [11] (joinsOf varint_Put_code)
noncomputable def varint_Put_S : List Code := scopesOf varint_Put_code
theorem varint_Put_l6_eq0 {ρ : Type} (k : Nat) (K : Ex → St UU → Option ρ) : ∀ (n : Nat) (v : Int × (List Int) × Int), iterK UX (fun s => s.at (varint_Put_cfg (ρ := ρ) k).live (varint_Put_cfg (ρ := ρ) k).boxes (some 6)) (exec UX (varint_Put_cfg k) (varint_Put_G k) (varint_Put_L.getD 0 .skip)) n ⟨[(0, .pv (.int .u64 v.1)), (2, .own (.li_u8 v.2.1)), (13, .pv (.int .i64 v.2.2))], []⟩ (nrmK UX (varint_Put_cfg k) 6 K) = varint_Put_l6 k (fun b2 => K (.exit 0) ⟨[(2, .own (.li_u8 b2))], []⟩) n v.1 v.2.1 v.2.2 :=
  iter_rec (X := UX) (fun v => ⟨[(0, .pv (.int .u64 v.1)), (2, .own (.li_u8 v.2.1)), (13, .pv (.int .i64 v.2.2))], []⟩) (fun rec v => varint_Put_l6_b k (fun b2 => K (.exit 0) ⟨[(2, .own (.li_u8 b2))], []⟩) (fun n0 b2 t13 => rec (n0, b2, t13)) v.1 v.2.1 v.2.2) (fun n v => varint_Put_l6 k (fun b2 => K (.exit 0) ⟨[(2, .own (.li_u8 b2))], []⟩) n v.1 v.2.1 v.2.2) (fun n v => by kernel_rfl) (fun _ => rfl) (fun _ _ => rfl)
theorem varint_Put_l6_ok0 {ρ : Type} (k : Nat) : IterOK UX (varint_Put_cfg (ρ := ρ) k) (varint_Put_G k) (varint_Put_L.getD 0 .skip) 6 (varint_Put_l6_s k) := by
  intro s K r h
  obtain ⟨env, hp⟩ := s
  unfold varint_Put_l6_s at h
  replace h := popS_inv h; obtain ⟨v1, e2, rfl, h⟩ := h
  replace h := asI_inv h; obtain ⟨n0, rfl, h⟩ := h
  replace h := popS_inv h; obtain ⟨v3, e4, rfl, h⟩ := h
  replace h := asO_li_u8_inv h; obtain ⟨b2, rfl, h⟩ := h
  replace h := popS_inv h; obtain ⟨v5, e6, rfl, h⟩ := h
  replace h := asI_inv h; obtain ⟨t13, rfl, h⟩ := h
  replace h := popN_inv h; obtain ⟨rfl, h⟩ := h
  replace h := popN_inv h; obtain ⟨rfl, h⟩ := h
  exact ⟨k, (varint_Put_l6_eq0 k K k (n0, b2, t13)).trans h⟩
theorem varint_Put_j11_eq0 {ρ : Type} (k : Nat) (K : Ex → St UU → Option ρ) (n0 : Int) (b2 : List Int) (low3 : Int) : exec UX (varint_Put_cfg k) (varint_Put_G k) (varint_Put_J.getD 0 .skip) ⟨[(0, .pv (.int .u64 n0)), (2, .own (.li_u8 b2)), (3, .pv (.int .u8 low3))], []⟩ (nrmK UX (varint_Put_cfg k) 11 K) = varint_Put_j11 k (fun n0 b2 low3 => K (.goto 0) ⟨[(0, .pv (.int .u64 n0)), (2, .own (.li_u8 b2)), (3, .pv (.int .u8 low3))], []⟩) (fun b2 => K .ret ⟨[(2, .own (.li_u8 b2))], []⟩) n0 b2 low3 := by kernel_rfl
theorem varint_Put_j11_ok0 {ρ : Type} (k : Nat) : JoinOK UX (varint_Put_cfg (ρ := ρ) k) (varint_Put_G k) (varint_Put_J.getD 0 .skip) 11 (varint_Put_j11_s k) := by
  intro s K r h
  obtain ⟨env, hp⟩ := s
  unfold varint_Put_j11_s at h
  replace h := popS_inv h; obtain ⟨v1, e2, rfl, h⟩ := h
  replace h := asI_inv h; obtain ⟨n0, rfl, h⟩ := h
  replace h := popS_inv h; obtain ⟨v3, e4, rfl, h⟩ := h
  replace h := asO_li_u8_inv h; obtain ⟨b2, rfl, h⟩ := h
  replace h := popS_inv h; obtain ⟨v5, e6, rfl, h⟩ := h
  replace h := asI_inv h; obtain ⟨low3, rfl, h⟩ := h
  replace h := popN_inv h; obtain ⟨rfl, h⟩ := h
  replace h := popN_inv h; obtain ⟨rfl, h⟩ := h
  exact (varint_Put_j11_eq0 k K n0 b2 low3).trans h
noncomputable def varint_Put_g0_f0 {ρ : Type} (k : Nat) : Run UX ρ := (suff UX (varint_Put_cfg k) (varint_Put_G k) (varint_Put_S.getD 0 .skip) 0).getD fun _ _ => none
theorem varint_Put_g0_eq0 {ρ : Type} (k : Nat) (K : Ex → St UU → Option ρ) : ∀ (n : Nat) (v : Int × (List Int) × Int), scopeN UX (fun l s => s.at (varint_Put_cfg (ρ := ρ) k).live (varint_Put_cfg (ρ := ρ) k).boxes (some ((varint_Put_cfg (ρ := ρ) k).labelR l))) (suff UX (varint_Put_cfg k) (varint_Put_G k) (varint_Put_S.getD 0 .skip)) (fun l => ((varint_Put_cfg (ρ := ρ) k).labels l).isSome) n (varint_Put_g0_f0 k) ⟨[(0, .pv (.int .u64 v.1)), (2, .own (.li_u8 v.2.1)), (3, .pv (.int .u8 v.2.2))], []⟩ (nrmK UX (varint_Put_cfg k) ((varint_Put_cfg (ρ := ρ) k).labelR 0) K) = varint_Put_g0 k (fun b2 => K .ret ⟨[(2, .own (.li_u8 b2))], []⟩) n v.1 v.2.1 v.2.2 :=
  scope_rec (X := UX) (fun _ => varint_Put_g0_f0 k) (fun v => ⟨[(0, .pv (.int .u64 v.1)), (2, .own (.li_u8 v.2.1)), (3, .pv (.int .u8 v.2.2))], []⟩) (fun rec v => varint_Put_g0_b k (fun b2 => K .ret ⟨[(2, .own (.li_u8 b2))], []⟩) (fun n0 b2 low3 => rec (n0, b2, low3)) v.1 v.2.1 v.2.2) (fun n v => varint_Put_g0 k (fun b2 => K .ret ⟨[(2, .own (.li_u8 b2))], []⟩) n v.1 v.2.1 v.2.2) (fun n v => by kernel_rfl) (fun _ => rfl) (fun _ _ => rfl)
theorem varint_Put_g0_ok0 {ρ : Type} (k : Nat) : LabOK UX (varint_Put_cfg (ρ := ρ) k) (varint_Put_G k) (varint_Put_S.getD 0 .skip) 0 (varint_Put_g0_s k) := by
  intro f hf s K r h
  have hf : varint_Put_g0_f0 k = f := by unfold varint_Put_g0_f0; rw [hf]; rfl
  subst hf
  obtain ⟨env, hp⟩ := s
  unfold varint_Put_g0_s at h
  replace h := popS_inv h; obtain ⟨v1, e2, rfl, h⟩ := h
  replace h := asI_inv h; obtain ⟨n0, rfl, h⟩ := h
  replace h := popS_inv h; obtain ⟨v3, e4, rfl, h⟩ := h
  replace h := asO_li_u8_inv h; obtain ⟨b2, rfl, h⟩ := h
  replace h := popS_inv h; obtain ⟨v5, e6, rfl, h⟩ := h
  replace h := asI_inv h; obtain ⟨low3, rfl, h⟩ := h
  replace h := popN_inv h; obtain ⟨rfl, h⟩ := h
  replace h := popN_inv h; obtain ⟨rfl, h⟩ := h
  exact ⟨k, (varint_Put_g0_eq0 k K k (n0, b2, low3)).trans h⟩
theorem varint_Put_cok {ρ : Type} (k : Nat) : COK (varint_Put_cfg (ρ := ρ) k) (varint_Put_G k) varint_Put_code :=
  cok_of (tl := [(6, varint_Put_l6_s k)]) (tj := [(11, varint_Put_j11_s k)]) (tb := [(0, varint_Put_g0_s k)]) rfl rfl rfl (all_nth 1 (by kernel_rfl) ⟨iter_case (by kernel_rfl) rfl (varint_Put_l6_ok0 k), trivial⟩) (all_nth 1 (by kernel_rfl) ⟨join_case (by kernel_rfl) rfl (varint_Put_j11_ok0 k), trivial⟩) (fun p hp => by
    simp only [List.mem_cons, List.not_mem_nil, or_false] at hp
    subst hp
    · exact all_nth 1 (by kernel_rfl) ⟨varint_Put_g0_ok0 k, trivial⟩)
noncomputable def varint_Put_enc (r : (List Int)) : AV UU := .own (.li_u8 r)
noncomputable def varint_Put_dec (v : AV UU) (_ : List (List (AV UU))) : Option (List Int) :=
asO_li_u8 v fun r =>
some r
theorem varint_Put_dec_enc (v : AV UU) (b : List (List (AV UU))) (r : (List Int)) (h : varint_Put_dec v b = some r) : v = varint_Put_enc r := by
  unfold varint_Put_dec at h
  replace h := asO_li_u8_inv h; obtain ⟨r, rfl, h⟩ := h
  cases h
  rfl
theorem varint_Put_eq (k : Nat) (n0 : Int) : bodyK UX (varint_Put_cfg k) (varint_Put_G k) Try.f50 [.pv (.int .u64 n0)] [] varint_Put_dec = varint_Put k n0 := by kernel_rfl
theorem varint_Put_con (k : Nat) (n0 : Int) (r : (List Int)) (h : varint_Put k n0 = some r) : Con (X := UX) Try.prog 50 [.pv (.int .u64 n0)] [] (varint_Put_enc r) [] :=
  con_of_body xok tok Try.func50 varint_Put_body (varint_Put_gok k) rfl (varint_Put_cok k) (of_decide_eq_true (by kernel_rfl)) varint_Put_dec_enc ((varint_Put_eq k n0).trans h)
noncomputable def varint_Put_an {ρ : Type} (k : Nat) : An UX ρ := fun args bx K =>
popA args fun v1 a2 =>
asI .u64 v1 fun n0 =>
popN a2 <|
popN bx <|
(varint_Put k n0).bind fun r => K (varint_Put_enc r) []
theorem varint_Put_ok {ρ : Type} (k : Nat) : AnsOK Try.prog 50 (varint_Put_an (ρ := ρ) k) := by
  intro args bx K r h
  unfold varint_Put_an at h
  replace h := popA_inv h; obtain ⟨v1, a2, rfl, h⟩ := h
  replace h := asI_inv h; obtain ⟨n0, rfl, h⟩ := h
  replace h := popN_inv h; obtain ⟨rfl, h⟩ := h
  replace h := popN_inv h; obtain ⟨rfl, h⟩ := h
  replace h := bind_inv h
  obtain ⟨x, hx, h⟩ := h
  exact ⟨there_of Try.func50 (by kernel_rfl) varint_Put_body, _, _, h, varint_Put_con k n0 x hx⟩

/-! cadastre/record.kind -/
noncomputable def record_kind_code : Code := match Try.f54.body with | some c => c | none => .skip
theorem record_kind_body : Try.f54.body = some record_kind_code := by kernel_rfl
noncomputable def record_kind_G {ρ : Type} (k : Nat) : Ans UX ρ := gnil
theorem record_kind_gok {ρ : Type} (k : Nat) : GOK Try.prog (record_kind_G (ρ := ρ) k) := gok_nil
noncomputable def record_kind_cfg {ρ : Type} (k : Nat) : Cfg UX ρ where
  live i := (assoc [(0, [0]), (1, [1]), (2, [1, 5]), (3, []), (4, [1, 5]), (5, [1]), (6, [1, 5]), (7, [1]), (8, [1]), (9, [3]), (10, []), (11, [3]), (12, []), (13, [3]), (14, []), (15, [3]), (16, []), (17, [3]), (18, []), (19, [])] i).getD []
  boxes i := (assoc [(0, []), (1, [1]), (2, [1]), (3, []), (4, [1]), (5, [1]), (6, [1]), (7, [1]), (8, [1]), (9, []), (10, []), (11, []), (12, []), (13, []), (14, []), (15, []), (16, []), (17, []), (18, []), (19, [])] i).getD []
  tk i := (assoc [] i).getD []
  n := 50
  labelR l := (assoc [] l).getD 0
  loops := assoc []
  labels := assoc []
  joins := assoc []
  xl i e := match e with
    | .nxt => assoc [] i
    | .ret => assoc [] i
    | .exit j => (assoc [] i).bind fun l => assoc l j
    | .goto j => (assoc [] i).bind fun l => assoc l j
noncomputable def record_kind_L : List Code := selI [] (loopsOf record_kind_code)
noncomputable def record_kind_J : List Code := selI [] (joinsOf record_kind_code)
noncomputable def record_kind_S : List Code := scopesOf record_kind_code
theorem record_kind_cok {ρ : Type} (k : Nat) : COK (record_kind_cfg (ρ := ρ) k) (record_kind_G k) record_kind_code :=
  cok_of (tl := []) (tj := []) (tb := []) rfl rfl rfl (nil_all (by kernel_rfl)) (nil_all (by kernel_rfl)) (fun p hp => by cases hp)
noncomputable def record_kind_enc (r : Int) : AV UU := .pv (.int .u64 r)
noncomputable def record_kind_dec (v : AV UU) (_ : List (List (AV UU))) : Option Int :=
asI .u64 v fun r0 =>
some r0
theorem record_kind_dec_enc (v : AV UU) (b : List (List (AV UU))) (r : Int) (h : record_kind_dec v b = some r) : v = record_kind_enc r := by
  unfold record_kind_dec at h
  replace h := asI_inv h; obtain ⟨r0, rfl, h⟩ := h
  cases h
  rfl
theorem record_kind_eq (k : Nat) (v0 : S44) : bodyK UX (record_kind_cfg k) (record_kind_G k) Try.f54 [.pv (.typ (.s44 v0))] [] record_kind_dec = record_kind k v0 := by kernel_rfl
theorem record_kind_con (k : Nat) (v0 : S44) (r : Int) (h : record_kind k v0 = some r) : Con (X := UX) Try.prog 54 [.pv (.typ (.s44 v0))] [] (record_kind_enc r) [] :=
  con_of_body xok tok Try.func54 record_kind_body (record_kind_gok k) rfl (record_kind_cok k) (of_decide_eq_true (by kernel_rfl)) record_kind_dec_enc ((record_kind_eq k v0).trans h)
noncomputable def record_kind_an {ρ : Type} (k : Nat) : An UX ρ := fun args bx K =>
popA args fun v1 a2 =>
as_s44 v1 fun v0 =>
popN a2 <|
popN bx <|
(record_kind k v0).bind fun r => K (record_kind_enc r) []
theorem record_kind_ok {ρ : Type} (k : Nat) : AnsOK Try.prog 54 (record_kind_an (ρ := ρ) k) := by
  intro args bx K r h
  unfold record_kind_an at h
  replace h := popA_inv h; obtain ⟨v1, a2, rfl, h⟩ := h
  replace h := as_s44_inv h; obtain ⟨v0, rfl, h⟩ := h
  replace h := popN_inv h; obtain ⟨rfl, h⟩ := h
  replace h := popN_inv h; obtain ⟨rfl, h⟩ := h
  replace h := bind_inv h
  obtain ⟨x, hx, h⟩ := h
  exact ⟨there_of Try.func54 (by kernel_rfl) record_kind_body, _, _, h, record_kind_con k v0 x hx⟩

/-! cadastre/record.widths -/
noncomputable def record_widths_code : Code := match Try.f72.body with | some c => c | none => .skip
theorem record_widths_body : Try.f72.body = some record_widths_code := by kernel_rfl
noncomputable def record_widths_G {ρ : Type} (k : Nat) : Ans UX ρ := gnil
theorem record_widths_gok {ρ : Type} (k : Nat) : GOK Try.prog (record_widths_G (ρ := ρ) k) := gok_nil
noncomputable def record_widths_cfg {ρ : Type} (k : Nat) : Cfg UX ρ where
  live i := (assoc [(0, []), (1, [0])] i).getD []
  boxes i := (assoc [(0, []), (1, [0])] i).getD []
  tk i := (assoc [] i).getD []
  n := 2
  labelR l := (assoc [] l).getD 0
  loops := assoc []
  labels := assoc []
  joins := assoc []
  xl i e := match e with
    | .nxt => assoc [] i
    | .ret => assoc [] i
    | .exit j => (assoc [] i).bind fun l => assoc l j
    | .goto j => (assoc [] i).bind fun l => assoc l j
noncomputable def record_widths_L : List Code := selI [] (loopsOf record_widths_code)
noncomputable def record_widths_J : List Code := selI [] (joinsOf record_widths_code)
noncomputable def record_widths_S : List Code := scopesOf record_widths_code
theorem record_widths_cok {ρ : Type} (k : Nat) : COK (record_widths_cfg (ρ := ρ) k) (record_widths_G k) record_widths_code :=
  cok_of (tl := []) (tj := []) (tb := []) rfl rfl rfl (nil_all (by kernel_rfl)) (nil_all (by kernel_rfl)) (fun p hp => by cases hp)
noncomputable def record_widths_enc (r : (List Int)) : AV UU := .pv (.typ (.a109 r))
noncomputable def record_widths_dec (v : AV UU) (_ : List (List (AV UU))) : Option (List Int) :=
as_a109 v fun r0 =>
some r0
theorem record_widths_dec_enc (v : AV UU) (b : List (List (AV UU))) (r : (List Int)) (h : record_widths_dec v b = some r) : v = record_widths_enc r := by
  unfold record_widths_dec at h
  replace h := as_a109_inv h; obtain ⟨r0, rfl, h⟩ := h
  cases h
  rfl
theorem record_widths_eq (k : Nat) : bodyK UX (record_widths_cfg k) (record_widths_G k) Try.f72 [] [] record_widths_dec = record_widths k := by kernel_rfl
theorem record_widths_con (k : Nat) (r : (List Int)) (h : record_widths k = some r) : Con (X := UX) Try.prog 72 [] [] (record_widths_enc r) [] :=
  con_of_body xok tok Try.func72 record_widths_body (record_widths_gok k) rfl (record_widths_cok k) (of_decide_eq_true (by kernel_rfl)) record_widths_dec_enc ((record_widths_eq k).trans h)
noncomputable def record_widths_an {ρ : Type} (k : Nat) : An UX ρ := fun args bx K =>
popN args <|
popN bx <|
(record_widths k).bind fun r => K (record_widths_enc r) []
theorem record_widths_ok {ρ : Type} (k : Nat) : AnsOK Try.prog 72 (record_widths_an (ρ := ρ) k) := by
  intro args bx K r h
  unfold record_widths_an at h
  replace h := popN_inv h; obtain ⟨rfl, h⟩ := h
  replace h := popN_inv h; obtain ⟨rfl, h⟩ := h
  replace h := bind_inv h
  obtain ⟨x, hx, h⟩ := h
  exact ⟨there_of Try.func72 (by kernel_rfl) record_widths_body, _, _, h, record_widths_con k x hx⟩

/-! cadastre/record.put -/
noncomputable def record_put_o0_code : Code := match Try.f55.body with | some c => c | none => .skip
theorem record_put_o0_body : Try.f55.body = some record_put_o0_code := by kernel_rfl
noncomputable def record_put_o0_G {ρ : Type} (k : Nat) : Ans UX ρ := gk 54 (record_kind_an k) (gk 72 (record_widths_an k) (gnil))
theorem record_put_o0_gok {ρ : Type} (k : Nat) : GOK Try.prog (record_put_o0_G (ρ := ρ) k) := gok_cons (record_kind_ok k) (gok_cons (record_widths_ok k) (gok_nil))
noncomputable def record_put_o0_l7_s {ρ : Type} (k : Nat) : Run UX ρ := fun s K =>
popS 0 s.env fun v1 e2 =>
asO_li_u8 v1 fun b0 =>
popS 3 e2 fun v3 e4 =>
asP 3 0 v3 <|
popS 6 e4 fun v5 e6 =>
asI .i64 v5 fun k6 =>
popN e6 <|
popB 3 s.hp fun c7 e8 =>
popA c7 fun v9 c10 =>
asI .i64 v9 fun z11 =>
popA c10 fun v12 c13 =>
asI .i64 v12 fun z14 =>
popA c13 fun v15 c16 =>
asS v15 fun z17 =>
popN c16 <|
popN e8 <|
record_put_o0_l7 k (fun b0 => K (.exit 0) ⟨[(0, .own (.li_u8 b0))], []⟩) k b0 k6 (⟨z11, z14, z17⟩ : S44)
noncomputable def record_put_o0_j6_s {ρ : Type} (k : Nat) : Run UX ρ := fun s K =>
popS 0 s.env fun v1 e2 =>
asO_li_u8 v1 fun b0 =>
popS 3 e2 fun v3 e4 =>
asP 3 0 v3 <|
popS 5 e4 fun v5 e6 =>
asI .u64 v5 fun t5 =>
popN e6 <|
popB 3 s.hp fun c7 e8 =>
popA c7 fun v9 c10 =>
asI .i64 v9 fun z11 =>
popA c10 fun v12 c13 =>
asI .i64 v12 fun z14 =>
popA c13 fun v15 c16 =>
asS v15 fun z17 =>
popN c16 <|
popN e8 <|
record_put_o0_j6 k (fun t4 => K .ret ⟨[(4, .own (.li_u8 t4))], []⟩) b0 t5 (⟨z11, z14, z17⟩ : S44)
noncomputable def record_put_o0_cfg {ρ : Type} (k : Nat) : Cfg UX ρ where
  live i := (assoc [(0, [0, 1]), (1, [0, 3]), (2, [0, 3, 5]), (3, [0, 3]), (4, [0, 3, 5]), (5, [0]), (6, [0, 3, 5]), (7, [0, 3, 6]), (8, [0, 3, 6]), (9, [0, 3, 6]), (10, [0])] i).getD []
  boxes i := (assoc [(0, []), (1, [3]), (2, [3]), (3, [3]), (4, [3]), (5, []), (6, [3]), (7, [3]), (8, [3]), (9, [3]), (10, [])] i).getD []
  tk i := (assoc [(1000000, [4])] i).getD []
  n := 40
  labelR l := (assoc [] l).getD 0
  loops := assoc [(7, record_put_o0_l7_s k)]
  labels := assoc []
  joins := assoc [(6, record_put_o0_j6_s k)]
  xl i e := match e with
    | .nxt => assoc [] i
    | .ret => assoc [(6, ([4], []))] i
    | .exit j => (assoc [(7, [(0, ([0], []))])] i).bind fun l => assoc l j
    | .goto j => (assoc [] i).bind fun l => assoc l j
noncomputable def record_put_o0_L : List Code := selI [7] (loopsOf record_put_o0_code)
noncomputable def record_put_o0_J : List Code := selI [6] (joinsOf record_put_o0_code)
noncomputable def record_put_o0_S : List Code := scopesOf record_put_o0_code
theorem record_put_o0_l7_eq0 {ρ : Type} (k : Nat) (K : Ex → St UU → Option ρ) : ∀ (n : Nat) (v : (List Int) × Int × S44), iterK UX (fun s => s.at (record_put_o0_cfg (ρ := ρ) k).live (record_put_o0_cfg (ρ := ρ) k).boxes (some 7)) (exec UX (record_put_o0_cfg k) (record_put_o0_G k) (record_put_o0_L.getD 0 .skip)) n ⟨[(0, .own (.li_u8 v.1)), (3, .ptr 3 0), (6, .pv (.int .i64 v.2.1))], [(3, [.pv (.int .i64 v.2.2.f0), .pv (.int .i64 v.2.2.f1), .pv (.str v.2.2.f2)])]⟩ (nrmK UX (record_put_o0_cfg k) 7 K) = record_put_o0_l7 k (fun b0 => K (.exit 0) ⟨[(0, .own (.li_u8 b0))], []⟩) n v.1 v.2.1 v.2.2 :=
  iter_rec (X := UX) (fun v => ⟨[(0, .own (.li_u8 v.1)), (3, .ptr 3 0), (6, .pv (.int .i64 v.2.1))], [(3, [.pv (.int .i64 v.2.2.f0), .pv (.int .i64 v.2.2.f1), .pv (.str v.2.2.f2)])]⟩) (fun rec v => record_put_o0_l7_b k (fun b0 => K (.exit 0) ⟨[(0, .own (.li_u8 b0))], []⟩) (fun b0 k6 v3 => rec (b0, k6, v3)) v.1 v.2.1 v.2.2) (fun n v => record_put_o0_l7 k (fun b0 => K (.exit 0) ⟨[(0, .own (.li_u8 b0))], []⟩) n v.1 v.2.1 v.2.2) (fun n v => by kernel_rfl) (fun _ => rfl) (fun _ _ => rfl)
theorem record_put_o0_l7_ok0 {ρ : Type} (k : Nat) : IterOK UX (record_put_o0_cfg (ρ := ρ) k) (record_put_o0_G k) (record_put_o0_L.getD 0 .skip) 7 (record_put_o0_l7_s k) := by
  intro s K r h
  obtain ⟨env, hp⟩ := s
  unfold record_put_o0_l7_s at h
  replace h := popS_inv h; obtain ⟨v1, e2, rfl, h⟩ := h
  replace h := asO_li_u8_inv h; obtain ⟨b0, rfl, h⟩ := h
  replace h := popS_inv h; obtain ⟨v3, e4, rfl, h⟩ := h
  replace h := asP_inv h; obtain ⟨rfl, h⟩ := h
  replace h := popS_inv h; obtain ⟨v5, e6, rfl, h⟩ := h
  replace h := asI_inv h; obtain ⟨k6, rfl, h⟩ := h
  replace h := popN_inv h; obtain ⟨rfl, h⟩ := h
  replace h := popB_inv h; obtain ⟨c7, e8, rfl, h⟩ := h
  replace h := popA_inv h; obtain ⟨v9, c10, rfl, h⟩ := h
  replace h := asI_inv h; obtain ⟨z11, rfl, h⟩ := h
  replace h := popA_inv h; obtain ⟨v12, c13, rfl, h⟩ := h
  replace h := asI_inv h; obtain ⟨z14, rfl, h⟩ := h
  replace h := popA_inv h; obtain ⟨v15, c16, rfl, h⟩ := h
  replace h := asS_inv h; obtain ⟨z17, rfl, h⟩ := h
  replace h := popN_inv h; obtain ⟨rfl, h⟩ := h
  replace h := popN_inv h; obtain ⟨rfl, h⟩ := h
  exact ⟨k, (record_put_o0_l7_eq0 k K k (b0, k6, (⟨z11, z14, z17⟩ : S44))).trans h⟩
theorem record_put_o0_j6_eq0 {ρ : Type} (k : Nat) (K : Ex → St UU → Option ρ) (b0 : List Int) (t5 : Int) (v3 : S44) : exec UX (record_put_o0_cfg k) (record_put_o0_G k) (record_put_o0_J.getD 0 .skip) ⟨[(0, .own (.li_u8 b0)), (3, .ptr 3 0), (5, .pv (.int .u64 t5))], [(3, [.pv (.int .i64 v3.f0), .pv (.int .i64 v3.f1), .pv (.str v3.f2)])]⟩ (nrmK UX (record_put_o0_cfg k) 6 K) = record_put_o0_j6 k (fun t4 => K .ret ⟨[(4, .own (.li_u8 t4))], []⟩) b0 t5 v3 := by kernel_rfl
theorem record_put_o0_j6_ok0 {ρ : Type} (k : Nat) : JoinOK UX (record_put_o0_cfg (ρ := ρ) k) (record_put_o0_G k) (record_put_o0_J.getD 0 .skip) 6 (record_put_o0_j6_s k) := by
  intro s K r h
  obtain ⟨env, hp⟩ := s
  unfold record_put_o0_j6_s at h
  replace h := popS_inv h; obtain ⟨v1, e2, rfl, h⟩ := h
  replace h := asO_li_u8_inv h; obtain ⟨b0, rfl, h⟩ := h
  replace h := popS_inv h; obtain ⟨v3, e4, rfl, h⟩ := h
  replace h := asP_inv h; obtain ⟨rfl, h⟩ := h
  replace h := popS_inv h; obtain ⟨v5, e6, rfl, h⟩ := h
  replace h := asI_inv h; obtain ⟨t5, rfl, h⟩ := h
  replace h := popN_inv h; obtain ⟨rfl, h⟩ := h
  replace h := popB_inv h; obtain ⟨c7, e8, rfl, h⟩ := h
  replace h := popA_inv h; obtain ⟨v9, c10, rfl, h⟩ := h
  replace h := asI_inv h; obtain ⟨z11, rfl, h⟩ := h
  replace h := popA_inv h; obtain ⟨v12, c13, rfl, h⟩ := h
  replace h := asI_inv h; obtain ⟨z14, rfl, h⟩ := h
  replace h := popA_inv h; obtain ⟨v15, c16, rfl, h⟩ := h
  replace h := asS_inv h; obtain ⟨z17, rfl, h⟩ := h
  replace h := popN_inv h; obtain ⟨rfl, h⟩ := h
  replace h := popN_inv h; obtain ⟨rfl, h⟩ := h
  exact (record_put_o0_j6_eq0 k K b0 t5 (⟨z11, z14, z17⟩ : S44)).trans h
theorem record_put_o0_cok {ρ : Type} (k : Nat) : COK (record_put_o0_cfg (ρ := ρ) k) (record_put_o0_G k) record_put_o0_code :=
  cok_of (tl := [(7, record_put_o0_l7_s k)]) (tj := [(6, record_put_o0_j6_s k)]) (tb := []) rfl rfl rfl (all_nth 1 (by kernel_rfl) ⟨iter_case (by kernel_rfl) rfl (record_put_o0_l7_ok0 k), trivial⟩) (all_nth 1 (by kernel_rfl) ⟨join_case (by kernel_rfl) rfl (record_put_o0_j6_ok0 k), trivial⟩) (fun p hp => by cases hp)
noncomputable def record_put_o0_enc (r : (List Int)) : AV UU := .own (.li_u8 r)
noncomputable def record_put_o0_dec (v : AV UU) (_ : List (List (AV UU))) : Option (List Int) :=
asO_li_u8 v fun r =>
some r
theorem record_put_o0_dec_enc (v : AV UU) (b : List (List (AV UU))) (r : (List Int)) (h : record_put_o0_dec v b = some r) : v = record_put_o0_enc r := by
  unfold record_put_o0_dec at h
  replace h := asO_li_u8_inv h; obtain ⟨r, rfl, h⟩ := h
  cases h
  rfl
theorem record_put_o0_eq (k : Nat) (b0 : List Int) (v1 : S44) : bodyK UX (record_put_o0_cfg k) (record_put_o0_G k) Try.f55 [.own (.li_u8 b0), .pv (.typ (.s44 v1))] [] record_put_o0_dec = record_put_o0 k b0 v1 := by kernel_rfl
theorem record_put_o0_con (k : Nat) (b0 : List Int) (v1 : S44) (r : (List Int)) (h : record_put_o0 k b0 v1 = some r) : Con (X := UX) Try.prog 55 [.own (.li_u8 b0), .pv (.typ (.s44 v1))] [] (record_put_o0_enc r) [] :=
  con_of_body xok tok Try.func55 record_put_o0_body (record_put_o0_gok k) rfl (record_put_o0_cok k) (of_decide_eq_true (by kernel_rfl)) record_put_o0_dec_enc ((record_put_o0_eq k b0 v1).trans h)
noncomputable def record_put_o0_an {ρ : Type} (k : Nat) : An UX ρ := fun args bx K =>
popA args fun v1 a2 =>
asO_li_u8 v1 fun b0 =>
popA a2 fun v3 a4 =>
as_s44 v3 fun v1 =>
popN a4 <|
popN bx <|
(record_put_o0 k b0 v1).bind fun r => K (record_put_o0_enc r) []
theorem record_put_o0_ok {ρ : Type} (k : Nat) : AnsOK Try.prog 55 (record_put_o0_an (ρ := ρ) k) := by
  intro args bx K r h
  unfold record_put_o0_an at h
  replace h := popA_inv h; obtain ⟨v1, a2, rfl, h⟩ := h
  replace h := asO_li_u8_inv h; obtain ⟨b0, rfl, h⟩ := h
  replace h := popA_inv h; obtain ⟨v3, a4, rfl, h⟩ := h
  replace h := as_s44_inv h; obtain ⟨v1, rfl, h⟩ := h
  replace h := popN_inv h; obtain ⟨rfl, h⟩ := h
  replace h := popN_inv h; obtain ⟨rfl, h⟩ := h
  replace h := bind_inv h
  obtain ⟨x, hx, h⟩ := h
  exact ⟨there_of Try.func55 (by kernel_rfl) record_put_o0_body, _, _, h, record_put_o0_con k b0 v1 x hx⟩
end Go.Proofs.Ytekjibpkkgldgaa.R
