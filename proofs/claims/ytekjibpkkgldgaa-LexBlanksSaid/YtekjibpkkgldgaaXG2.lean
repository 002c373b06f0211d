/-
  What the program's functions answer: the printed functions' answers.
-/
import Derived.Test.YtekjibpkkgldgaaXG1
namespace Go.Proofs.Ytekjibpkkgldgaa.X
open Go Go.AX
/-! cadastre/lex.Tokens -/
noncomputable def lex_Tokens_code : Code := match Try.f37.body with | some c => c | none => .skip
theorem lex_Tokens_body : Try.f37.body = some lex_Tokens_code := by kernel_rfl
noncomputable def lex_Tokens_G {ρ : Type} (k : Nat) : Ans UX ρ := gk 62 (lex_skip_an k) (gk 63 (lex_token_an k) (gk 64 (lex_long_an k) (gnil)))
theorem lex_Tokens_gok {ρ : Type} (k : Nat) : GOK Try.prog (lex_Tokens_G (ρ := ρ) k) := gok_cons (lex_skip_ok k) (gok_cons (lex_token_ok k) (gok_cons (lex_long_ok k) (gok_nil)))
noncomputable def lex_Tokens_l6_s {ρ : Type} (k : Nat) : Run UX ρ := fun s K =>
popS 0 s.env fun v1 e2 =>
asS v1 fun s0 =>
popS 4 e2 fun v3 e4 =>
asO_l68 v3 fun l4 =>
popS 5 e4 fun v5 e6 =>
asI .i64 v5 fun e5 =>
popS 6 e6 fun v7 e8 =>
asI .i64 v7 fun at6 =>
popN e8 <|
popN s.hp <|
lex_Tokens_l6 k (fun t2 t3 => K .ret ⟨[(2, .own (.l68 t2)), (3, .pv (.int .i64 t3))], []⟩) (fun l4 e5 => K (.exit 0) ⟨[(4, .own (.l68 l4)), (5, .pv (.int .i64 e5))], []⟩) k s0 l4 e5 at6
noncomputable def lex_Tokens_cfg {ρ : Type} (k : Nat) : Cfg UX ρ where
  live i := (assoc [(0, [0]), (1, [0]), (2, []), (3, [0]), (4, [0, 4]), (5, [0, 4, 5]), (6, [0, 4, 5, 6]), (7, [0, 4, 5, 6]), (8, [0, 4, 5, 6]), (9, [0, 4, 5, 7, 8, 9]), (10, []), (11, [0, 4, 5, 7, 8]), (12, [0, 4, 7, 8]), (13, [0, 4, 5, 7, 8]), (14, [0, 4, 5, 8]), (15, [4, 5]), (16, [5]), (17, [4])] i).getD []
  boxes i := (assoc [(0, []), (1, []), (2, []), (3, []), (4, []), (5, []), (6, []), (7, []), (8, []), (9, [7]), (10, []), (11, [7]), (12, [7]), (13, [7]), (14, []), (15, []), (16, []), (17, [])] i).getD []
  tk i := (assoc [(1000000, [2, 4])] i).getD []
  n := 42
  labelR l := (assoc [] l).getD 0
  loops := assoc [(6, lex_Tokens_l6_s k)]
  labels := assoc []
  joins := assoc []
  xl i e := match e with
    | .nxt => assoc [] i
    | .ret => assoc [(6, ([2, 3], []))] i
    | .exit j => (assoc [(6, [(0, ([4, 5], []))])] i).bind fun l => assoc l j
    | .goto j => (assoc [] i).bind fun l => assoc l j
noncomputable def lex_Tokens_L : List Code := selI [6] (loopsOf lex_Tokens_code)
noncomputable def lex_Tokens_J : List Code := selI [] (joinsOf lex_Tokens_code)
noncomputable def lex_Tokens_S : List Code := scopesOf lex_Tokens_code
theorem lex_Tokens_l6_eq0 {ρ : Type} (k : Nat) (K : Ex → St UU → Option ρ) : ∀ (n : Nat) (v : ByteArray × (List S68) × Int × Int), iterK UX (fun s => s.at (lex_Tokens_cfg (ρ := ρ) k).live (lex_Tokens_cfg (ρ := ρ) k).boxes (some 6)) (exec UX (lex_Tokens_cfg k) (lex_Tokens_G k) (lex_Tokens_L.getD 0 .skip)) n ⟨[(0, .pv (.str v.1)), (4, .own (.l68 v.2.1)), (5, .pv (.int .i64 v.2.2.1)), (6, .pv (.int .i64 v.2.2.2))], []⟩ (nrmK UX (lex_Tokens_cfg k) 6 K) = lex_Tokens_l6 k (fun t2 t3 => K .ret ⟨[(2, .own (.l68 t2)), (3, .pv (.int .i64 t3))], []⟩) (fun l4 e5 => K (.exit 0) ⟨[(4, .own (.l68 l4)), (5, .pv (.int .i64 e5))], []⟩) n v.1 v.2.1 v.2.2.1 v.2.2.2 :=
  iter_rec (X := UX) (fun v => ⟨[(0, .pv (.str v.1)), (4, .own (.l68 v.2.1)), (5, .pv (.int .i64 v.2.2.1)), (6, .pv (.int .i64 v.2.2.2))], []⟩) (fun rec v => lex_Tokens_l6_b k (fun t2 t3 => K .ret ⟨[(2, .own (.l68 t2)), (3, .pv (.int .i64 t3))], []⟩) (fun l4 e5 => K (.exit 0) ⟨[(4, .own (.l68 l4)), (5, .pv (.int .i64 e5))], []⟩) (fun s0 l4 e5 at6 => rec (s0, l4, e5, at6)) v.1 v.2.1 v.2.2.1 v.2.2.2) (fun n v => lex_Tokens_l6 k (fun t2 t3 => K .ret ⟨[(2, .own (.l68 t2)), (3, .pv (.int .i64 t3))], []⟩) (fun l4 e5 => K (.exit 0) ⟨[(4, .own (.l68 l4)), (5, .pv (.int .i64 e5))], []⟩) n v.1 v.2.1 v.2.2.1 v.2.2.2) (fun n v => by kernel_rfl) (fun _ => rfl) (fun _ _ => rfl)
theorem lex_Tokens_l6_ok0 {ρ : Type} (k : Nat) : IterOK UX (lex_Tokens_cfg (ρ := ρ) k) (lex_Tokens_G k) (lex_Tokens_L.getD 0 .skip) 6 (lex_Tokens_l6_s k) := by
  intro s K r h
  obtain ⟨env, hp⟩ := s
  unfold lex_Tokens_l6_s at h
  replace h := popS_inv h; obtain ⟨v1, e2, rfl, h⟩ := h
  replace h := asS_inv h; obtain ⟨s0, rfl, h⟩ := h
  replace h := popS_inv h; obtain ⟨v3, e4, rfl, h⟩ := h
  replace h := asO_l68_inv h; obtain ⟨l4, rfl, h⟩ := h
  replace h := popS_inv h; obtain ⟨v5, e6, rfl, h⟩ := h
  replace h := asI_inv h; obtain ⟨e5, rfl, h⟩ := h
  replace h := popS_inv h; obtain ⟨v7, e8, rfl, h⟩ := h
  replace h := asI_inv h; obtain ⟨at6, rfl, h⟩ := h
  replace h := popN_inv h; obtain ⟨rfl, h⟩ := h
  replace h := popN_inv h; obtain ⟨rfl, h⟩ := h
  exact ⟨k, (lex_Tokens_l6_eq0 k K k (s0, l4, e5, at6)).trans h⟩
theorem lex_Tokens_cok {ρ : Type} (k : Nat) : COK (lex_Tokens_cfg (ρ := ρ) k) (lex_Tokens_G k) lex_Tokens_code :=
  cok_of (tl := [(6, lex_Tokens_l6_s k)]) (tj := []) (tb := []) rfl rfl rfl (all_nth 1 (by kernel_rfl) ⟨iter_case (by kernel_rfl) rfl (lex_Tokens_l6_ok0 k), trivial⟩) (nil_all (by kernel_rfl)) (fun p hp => by cases hp)
noncomputable def lex_Tokens_enc (r : (List S68) × Int) : AV UU := .pv (.tup [.typ (.l68 r.1), .int .i64 r.2])
noncomputable def lex_Tokens_dec (v : AV UU) (_ : List (List (AV UU))) : Option ((List S68) × Int) :=
asT v fun q1 =>
popA q1 fun p2 q3 =>
as_l68 (.pv p2) fun r0 =>
popA q3 fun p4 q5 =>
asI .i64 (.pv p4) fun r1 =>
popN q5 <|
some (r0, r1)
theorem lex_Tokens_dec_enc (v : AV UU) (b : List (List (AV UU))) (r : (List S68) × Int) (h : lex_Tokens_dec v b = some r) : v = lex_Tokens_enc r := by
  unfold lex_Tokens_dec at h
  replace h := asT_inv h; obtain ⟨q1, rfl, h⟩ := h
  replace h := popA_inv h; obtain ⟨p2, q3, rfl, h⟩ := h
  replace h := as_l68_inv h; obtain ⟨r0, e, h⟩ := h; cases e
  replace h := popA_inv h; obtain ⟨p4, q5, rfl, h⟩ := h
  replace h := asI_inv h; obtain ⟨r1, e, h⟩ := h; cases e
  replace h := popN_inv h; obtain ⟨rfl, h⟩ := h
  cases h
  rfl
theorem lex_Tokens_eq (k : Nat) (s0 : ByteArray) : bodyK UX (lex_Tokens_cfg k) (lex_Tokens_G k) Try.f37 [.pv (.str s0)] [] lex_Tokens_dec = lex_Tokens k s0 := by kernel_rfl
theorem lex_Tokens_con (k : Nat) (s0 : ByteArray) (r : (List S68) × Int) (h : lex_Tokens k s0 = some r) : Con (X := UX) Try.prog 37 [.pv (.str s0)] [] (lex_Tokens_enc r) [] :=
  con_of_body xok tok Try.func37 lex_Tokens_body (lex_Tokens_gok k) rfl (lex_Tokens_cok k) (of_decide_eq_true (by kernel_rfl)) lex_Tokens_dec_enc ((lex_Tokens_eq k s0).trans h)
noncomputable def lex_Tokens_an {ρ : Type} (k : Nat) : An UX ρ := fun args bx K =>
popA args fun v1 a2 =>
asS v1 fun s0 =>
popN a2 <|
popN bx <|
(lex_Tokens k s0).bind fun r => K (lex_Tokens_enc r) []
theorem lex_Tokens_ok {ρ : Type} (k : Nat) : AnsOK Try.prog 37 (lex_Tokens_an (ρ := ρ) k) := by
  intro args bx K r h
  unfold lex_Tokens_an at h
  replace h := popA_inv h; obtain ⟨v1, a2, rfl, h⟩ := h
  replace h := asS_inv h; obtain ⟨s0, rfl, h⟩ := h
  replace h := popN_inv h; obtain ⟨rfl, h⟩ := h
  replace h := popN_inv h; obtain ⟨rfl, h⟩ := h
  replace h := bind_inv h
  obtain ⟨x, hx, h⟩ := h
  exact ⟨there_of Try.func37 (by kernel_rfl) lex_Tokens_body, _, _, h, lex_Tokens_con k s0 x hx⟩

/-! cadastre/cadastrelaw19.num -/
noncomputable def cadastrelaw19_num_code : Code := match Try.f39.body with | some c => c | none => .skip
theorem cadastrelaw19_num_body : Try.f39.body = some cadastrelaw19_num_code := by kernel_rfl
noncomputable def cadastrelaw19_num_G {ρ : Type} (k : Nat) : Ans UX ρ := gnil
theorem cadastrelaw19_num_gok {ρ : Type} (k : Nat) : GOK Try.prog (cadastrelaw19_num_G (ρ := ρ) k) := gok_nil
noncomputable def cadastrelaw19_num_cfg {ρ : Type} (k : Nat) : Cfg UX ρ where
  live i := (assoc [(0, [0]), (1, [0])] i).getD []
  boxes i := (assoc [(0, []), (1, [])] i).getD []
  tk i := (assoc [] i).getD []
  n := 4
  labelR l := (assoc [] l).getD 0
  loops := assoc []
  labels := assoc []
  joins := assoc []
  xl i e := match e with
    | .nxt => assoc [] i
    | .ret => assoc [] i
    | .exit j => (assoc [] i).bind fun l => assoc l j
    | .goto j => (assoc [] i).bind fun l => assoc l j
noncomputable def cadastrelaw19_num_L : List Code := selI [] (loopsOf cadastrelaw19_num_code)
noncomputable def cadastrelaw19_num_J : List Code := selI [] (joinsOf cadastrelaw19_num_code)
noncomputable def cadastrelaw19_num_S : List Code := scopesOf cadastrelaw19_num_code
theorem cadastrelaw19_num_cok {ρ : Type} (k : Nat) : COK (cadastrelaw19_num_cfg (ρ := ρ) k) (cadastrelaw19_num_G k) cadastrelaw19_num_code :=
  cok_of (tl := []) (tj := []) (tb := []) rfl rfl rfl (nil_all (by kernel_rfl)) (nil_all (by kernel_rfl)) (fun p hp => by cases hp)
noncomputable def cadastrelaw19_num_enc (r : Int) : AV UU := .pv (.int .i64 r)
noncomputable def cadastrelaw19_num_dec (v : AV UU) (_ : List (List (AV UU))) : Option Int :=
asI .i64 v fun r0 =>
some r0
theorem cadastrelaw19_num_dec_enc (v : AV UU) (b : List (List (AV UU))) (r : Int) (h : cadastrelaw19_num_dec v b = some r) : v = cadastrelaw19_num_enc r := by
  unfold cadastrelaw19_num_dec at h
  replace h := asI_inv h; obtain ⟨r0, rfl, h⟩ := h
  cases h
  rfl
theorem cadastrelaw19_num_eq (k : Nat) (e0 : Int) : bodyK UX (cadastrelaw19_num_cfg k) (cadastrelaw19_num_G k) Try.f39 [.pv (.int .i64 e0)] [] cadastrelaw19_num_dec = cadastrelaw19_num k e0 := by kernel_rfl
theorem cadastrelaw19_num_con (k : Nat) (e0 : Int) (r : Int) (h : cadastrelaw19_num k e0 = some r) : Con (X := UX) Try.prog 39 [.pv (.int .i64 e0)] [] (cadastrelaw19_num_enc r) [] :=
  con_of_body xok tok Try.func39 cadastrelaw19_num_body (cadastrelaw19_num_gok k) rfl (cadastrelaw19_num_cok k) (of_decide_eq_true (by kernel_rfl)) cadastrelaw19_num_dec_enc ((cadastrelaw19_num_eq k e0).trans h)
noncomputable def cadastrelaw19_num_an {ρ : Type} (k : Nat) : An UX ρ := fun args bx K =>
popA args fun v1 a2 =>
asI .i64 v1 fun e0 =>
popN a2 <|
popN bx <|
(cadastrelaw19_num k e0).bind fun r => K (cadastrelaw19_num_enc r) []
theorem cadastrelaw19_num_ok {ρ : Type} (k : Nat) : AnsOK Try.prog 39 (cadastrelaw19_num_an (ρ := ρ) k) := by
  intro args bx K r h
  unfold cadastrelaw19_num_an at h
  replace h := popA_inv h; obtain ⟨v1, a2, rfl, h⟩ := h
  replace h := asI_inv h; obtain ⟨e0, rfl, h⟩ := h
  replace h := popN_inv h; obtain ⟨rfl, h⟩ := h
  replace h := popN_inv h; obtain ⟨rfl, h⟩ := h
  replace h := bind_inv h
  obtain ⟨x, hx, h⟩ := h
  exact ⟨there_of Try.func39 (by kernel_rfl) cadastrelaw19_num_body, _, _, h, cadastrelaw19_num_con k e0 x hx⟩

/-! cadastre/cadastreref0.EqTokens -/
noncomputable def cadastreref0_EqTokens_code : Code := match Try.f40.body with | some c => c | none => .skip
theorem cadastreref0_EqTokens_body : Try.f40.body = some cadastreref0_EqTokens_code := by kernel_rfl
noncomputable def cadastreref0_EqTokens_G {ρ : Type} (k : Nat) : Ans UX ρ := gnil
theorem cadastreref0_EqTokens_gok {ρ : Type} (k : Nat) : GOK Try.prog (cadastreref0_EqTokens_G (ρ := ρ) k) := gok_nil
noncomputable def cadastreref0_EqTokens_l4_s {ρ : Type} (k : Nat) : Run UX ρ := fun s K =>
popS 0 s.env fun v1 e2 =>
as_l68 v1 fun a0 =>
popS 1 e2 fun v3 e4 =>
as_l68 v3 fun b1 =>
popS 5 e4 fun v5 e6 =>
asI .i64 v5 fun i5 =>
popN e6 <|
popN s.hp <|
cadastreref0_EqTokens_l4 k (fun t4 => K .ret ⟨[(4, .pv (.bool t4))], []⟩) (K (.exit 0) ⟨[], []⟩) k a0 b1 i5
noncomputable def cadastreref0_EqTokens_cfg {ρ : Type} (k : Nat) : Cfg UX ρ where
  live i := (assoc [(0, [0, 1]), (1, [0, 1]), (2, []), (3, [0, 1]), (4, [0, 1, 5]), (5, [0, 1, 5]), (6, [0, 1, 5]), (7, []), (8, [])] i).getD []
  boxes i := (assoc [(0, []), (1, []), (2, []), (3, []), (4, []), (5, []), (6, []), (7, []), (8, [])] i).getD []
  tk i := (assoc [] i).getD []
  n := 26
  labelR l := (assoc [] l).getD 0
  loops := assoc [(4, cadastreref0_EqTokens_l4_s k)]
  labels := assoc []
  joins := assoc []
  xl i e := match e with
    | .nxt => assoc [] i
    | .ret => assoc [(4, ([4], []))] i
    | .exit j => (assoc [(4, [(0, ([], []))])] i).bind fun l => assoc l j
    | .goto j => (assoc [] i).bind fun l => assoc l j
noncomputable def cadastreref0_EqTokens_L : List Code := selI [4] (loopsOf cadastreref0_EqTokens_code)
noncomputable def cadastreref0_EqTokens_J : List Code := selI [] (joinsOf cadastreref0_EqTokens_code)
noncomputable def cadastreref0_EqTokens_S : List Code := scopesOf cadastreref0_EqTokens_code
theorem cadastreref0_EqTokens_l4_eq0 {ρ : Type} (k : Nat) (K : Ex → St UU → Option ρ) : ∀ (n : Nat) (v : (List S68) × (List S68) × Int), iterK UX (fun s => s.at (cadastreref0_EqTokens_cfg (ρ := ρ) k).live (cadastreref0_EqTokens_cfg (ρ := ρ) k).boxes (some 4)) (exec UX (cadastreref0_EqTokens_cfg k) (cadastreref0_EqTokens_G k) (cadastreref0_EqTokens_L.getD 0 .skip)) n ⟨[(0, .pv (.typ (.l68 v.1))), (1, .pv (.typ (.l68 v.2.1))), (5, .pv (.int .i64 v.2.2))], []⟩ (nrmK UX (cadastreref0_EqTokens_cfg k) 4 K) = cadastreref0_EqTokens_l4 k (fun t4 => K .ret ⟨[(4, .pv (.bool t4))], []⟩) (K (.exit 0) ⟨[], []⟩) n v.1 v.2.1 v.2.2 :=
  iter_rec (X := UX) (fun v => ⟨[(0, .pv (.typ (.l68 v.1))), (1, .pv (.typ (.l68 v.2.1))), (5, .pv (.int .i64 v.2.2))], []⟩) (fun rec v => cadastreref0_EqTokens_l4_b k (fun t4 => K .ret ⟨[(4, .pv (.bool t4))], []⟩) (K (.exit 0) ⟨[], []⟩) (fun a0 b1 i5 => rec (a0, b1, i5)) v.1 v.2.1 v.2.2) (fun n v => cadastreref0_EqTokens_l4 k (fun t4 => K .ret ⟨[(4, .pv (.bool t4))], []⟩) (K (.exit 0) ⟨[], []⟩) n v.1 v.2.1 v.2.2) (fun n v => by kernel_rfl) (fun _ => rfl) (fun _ _ => rfl)
theorem cadastreref0_EqTokens_l4_ok0 {ρ : Type} (k : Nat) : IterOK UX (cadastreref0_EqTokens_cfg (ρ := ρ) k) (cadastreref0_EqTokens_G k) (cadastreref0_EqTokens_L.getD 0 .skip) 4 (cadastreref0_EqTokens_l4_s k) := by
  intro s K r h
  obtain ⟨env, hp⟩ := s
  unfold cadastreref0_EqTokens_l4_s at h
  replace h := popS_inv h; obtain ⟨v1, e2, rfl, h⟩ := h
  replace h := as_l68_inv h; obtain ⟨a0, rfl, h⟩ := h
  replace h := popS_inv h; obtain ⟨v3, e4, rfl, h⟩ := h
  replace h := as_l68_inv h; obtain ⟨b1, rfl, h⟩ := h
  replace h := popS_inv h; obtain ⟨v5, e6, rfl, h⟩ := h
  replace h := asI_inv h; obtain ⟨i5, rfl, h⟩ := h
  replace h := popN_inv h; obtain ⟨rfl, h⟩ := h
  replace h := popN_inv h; obtain ⟨rfl, h⟩ := h
  exact ⟨k, (cadastreref0_EqTokens_l4_eq0 k K k (a0, b1, i5)).trans h⟩
theorem cadastreref0_EqTokens_cok {ρ : Type} (k : Nat) : COK (cadastreref0_EqTokens_cfg (ρ := ρ) k) (cadastreref0_EqTokens_G k) cadastreref0_EqTokens_code :=
  cok_of (tl := [(4, cadastreref0_EqTokens_l4_s k)]) (tj := []) (tb := []) rfl rfl rfl (all_nth 1 (by kernel_rfl) ⟨iter_case (by kernel_rfl) rfl (cadastreref0_EqTokens_l4_ok0 k), trivial⟩) (nil_all (by kernel_rfl)) (fun p hp => by cases hp)
noncomputable def cadastreref0_EqTokens_enc (r : Bool) : AV UU := .pv (.bool r)
noncomputable def cadastreref0_EqTokens_dec (v : AV UU) (_ : List (List (AV UU))) : Option Bool :=
asB v fun r0 =>
some r0
theorem cadastreref0_EqTokens_dec_enc (v : AV UU) (b : List (List (AV UU))) (r : Bool) (h : cadastreref0_EqTokens_dec v b = some r) : v = cadastreref0_EqTokens_enc r := by
  unfold cadastreref0_EqTokens_dec at h
  replace h := asB_inv h; obtain ⟨r0, rfl, h⟩ := h
  cases h
  rfl
theorem cadastreref0_EqTokens_eq (k : Nat) (a0 : List S68) (b1 : List S68) : bodyK UX (cadastreref0_EqTokens_cfg k) (cadastreref0_EqTokens_G k) Try.f40 [.pv (.typ (.l68 a0)), .pv (.typ (.l68 b1))] [] cadastreref0_EqTokens_dec = cadastreref0_EqTokens k a0 b1 := by kernel_rfl
theorem cadastreref0_EqTokens_con (k : Nat) (a0 : List S68) (b1 : List S68) (r : Bool) (h : cadastreref0_EqTokens k a0 b1 = some r) : Con (X := UX) Try.prog 40 [.pv (.typ (.l68 a0)), .pv (.typ (.l68 b1))] [] (cadastreref0_EqTokens_enc r) [] :=
  con_of_body xok tok Try.func40 cadastreref0_EqTokens_body (cadastreref0_EqTokens_gok k) rfl (cadastreref0_EqTokens_cok k) (of_decide_eq_true (by kernel_rfl)) cadastreref0_EqTokens_dec_enc ((cadastreref0_EqTokens_eq k a0 b1).trans h)
noncomputable def cadastreref0_EqTokens_an {ρ : Type} (k : Nat) : An UX ρ := fun args bx K =>
popA args fun v1 a2 =>
as_l68 v1 fun a0 =>
popA a2 fun v3 a4 =>
as_l68 v3 fun b1 =>
popN a4 <|
popN bx <|
(cadastreref0_EqTokens k a0 b1).bind fun r => K (cadastreref0_EqTokens_enc r) []
theorem cadastreref0_EqTokens_ok {ρ : Type} (k : Nat) : AnsOK Try.prog 40 (cadastreref0_EqTokens_an (ρ := ρ) k) := by
  intro args bx K r h
  unfold cadastreref0_EqTokens_an at h
  replace h := popA_inv h; obtain ⟨v1, a2, rfl, h⟩ := h
  replace h := as_l68_inv h; obtain ⟨a0, rfl, h⟩ := h
  replace h := popA_inv h; obtain ⟨v3, a4, rfl, h⟩ := h
  replace h := as_l68_inv h; obtain ⟨b1, rfl, h⟩ := h
  replace h := popN_inv h; obtain ⟨rfl, h⟩ := h
  replace h := popN_inv h; obtain ⟨rfl, h⟩ := h
  replace h := bind_inv h
  obtain ⟨x, hx, h⟩ := h
  exact ⟨there_of Try.func40 (by kernel_rfl) cadastreref0_EqTokens_body, _, _, h, cadastreref0_EqTokens_con k a0 b1 x hx⟩

/-! cadastre/cadastreref0.CopyTokens -/
noncomputable def cadastreref0_CopyTokens_code : Code := match Try.f43.body with | some c => c | none => .skip
theorem cadastreref0_CopyTokens_body : Try.f43.body = some cadastreref0_CopyTokens_code := by kernel_rfl
noncomputable def cadastreref0_CopyTokens_G {ρ : Type} (k : Nat) : Ans UX ρ := gnil
theorem cadastreref0_CopyTokens_gok {ρ : Type} (k : Nat) : GOK Try.prog (cadastreref0_CopyTokens_G (ρ := ρ) k) := gok_nil
noncomputable def cadastreref0_CopyTokens_l3_s {ρ : Type} (k : Nat) : Run UX ρ := fun s K =>
popS 0 s.env fun v1 e2 =>
as_l68 v1 fun l0 =>
popS 3 e2 fun v3 e4 =>
asO_l68 v3 fun m3 =>
popS 4 e4 fun v5 e6 =>
asI .i64 v5 fun i4 =>
popN e6 <|
popN s.hp <|
cadastreref0_CopyTokens_l3 k (fun m3 => K (.exit 0) ⟨[(3, .own (.l68 m3))], []⟩) k l0 m3 i4
noncomputable def cadastreref0_CopyTokens_cfg {ρ : Type} (k : Nat) : Cfg UX ρ where
  live i := (assoc [(0, [0]), (1, [0]), (2, [0, 3]), (3, [0, 3, 4]), (4, [0, 3, 4]), (5, [0, 3, 4]), (6, [3])] i).getD []
  boxes i := (assoc [(0, []), (1, []), (2, []), (3, []), (4, []), (5, []), (6, [])] i).getD []
  tk i := (assoc [(1000000, [2, 3])] i).getD []
  n := 19
  labelR l := (assoc [] l).getD 0
  loops := assoc [(3, cadastreref0_CopyTokens_l3_s k)]
  labels := assoc []
  joins := assoc []
  xl i e := match e with
    | .nxt => assoc [] i
    | .ret => assoc [] i
    | .exit j => (assoc [(3, [(0, ([3], []))])] i).bind fun l => assoc l j
    | .goto j => (assoc [] i).bind fun l => assoc l j
noncomputable def cadastreref0_CopyTokens_L : List Code := selI [3] (loopsOf cadastreref0_CopyTokens_code)
noncomputable def cadastreref0_CopyTokens_J : List Code := selI [] (joinsOf cadastreref0_CopyTokens_code)
noncomputable def cadastreref0_CopyTokens_S : List Code := scopesOf cadastreref0_CopyTokens_code
theorem cadastreref0_CopyTokens_l3_eq0 {ρ : Type} (k : Nat) (K : Ex → St UU → Option ρ) : ∀ (n : Nat) (v : (List S68) × (List S68) × Int), iterK UX (fun s => s.at (cadastreref0_CopyTokens_cfg (ρ := ρ) k).live (cadastreref0_CopyTokens_cfg (ρ := ρ) k).boxes (some 3)) (exec UX (cadastreref0_CopyTokens_cfg k) (cadastreref0_CopyTokens_G k) (cadastreref0_CopyTokens_L.getD 0 .skip)) n ⟨[(0, .pv (.typ (.l68 v.1))), (3, .own (.l68 v.2.1)), (4, .pv (.int .i64 v.2.2))], []⟩ (nrmK UX (cadastreref0_CopyTokens_cfg k) 3 K) = cadastreref0_CopyTokens_l3 k (fun m3 => K (.exit 0) ⟨[(3, .own (.l68 m3))], []⟩) n v.1 v.2.1 v.2.2 :=
  iter_rec (X := UX) (fun v => ⟨[(0, .pv (.typ (.l68 v.1))), (3, .own (.l68 v.2.1)), (4, .pv (.int .i64 v.2.2))], []⟩) (fun rec v => cadastreref0_CopyTokens_l3_b k (fun m3 => K (.exit 0) ⟨[(3, .own (.l68 m3))], []⟩) (fun l0 m3 i4 => rec (l0, m3, i4)) v.1 v.2.1 v.2.2) (fun n v => cadastreref0_CopyTokens_l3 k (fun m3 => K (.exit 0) ⟨[(3, .own (.l68 m3))], []⟩) n v.1 v.2.1 v.2.2) (fun n v => by kernel_rfl) (fun _ => rfl) (fun _ _ => rfl)
theorem cadastreref0_CopyTokens_l3_ok0 {ρ : Type} (k : Nat) : IterOK UX (cadastreref0_CopyTokens_cfg (ρ := ρ) k) (cadastreref0_CopyTokens_G k) (cadastreref0_CopyTokens_L.getD 0 .skip) 3 (cadastreref0_CopyTokens_l3_s k) := by
  intro s K r h
  obtain ⟨env, hp⟩ := s
  unfold cadastreref0_CopyTokens_l3_s at h
  replace h := popS_inv h; obtain ⟨v1, e2, rfl, h⟩ := h
  replace h := as_l68_inv h; obtain ⟨l0, rfl, h⟩ := h
  replace h := popS_inv h; obtain ⟨v3, e4, rfl, h⟩ := h
  replace h := asO_l68_inv h; obtain ⟨m3, rfl, h⟩ := h
  replace h := popS_inv h; obtain ⟨v5, e6, rfl, h⟩ := h
  replace h := asI_inv h; obtain ⟨i4, rfl, h⟩ := h
  replace h := popN_inv h; obtain ⟨rfl, h⟩ := h
  replace h := popN_inv h; obtain ⟨rfl, h⟩ := h
  exact ⟨k, (cadastreref0_CopyTokens_l3_eq0 k K k (l0, m3, i4)).trans h⟩
theorem cadastreref0_CopyTokens_cok {ρ : Type} (k : Nat) : COK (cadastreref0_CopyTokens_cfg (ρ := ρ) k) (cadastreref0_CopyTokens_G k) cadastreref0_CopyTokens_code :=
  cok_of (tl := [(3, cadastreref0_CopyTokens_l3_s k)]) (tj := []) (tb := []) rfl rfl rfl (all_nth 1 (by kernel_rfl) ⟨iter_case (by kernel_rfl) rfl (cadastreref0_CopyTokens_l3_ok0 k), trivial⟩) (nil_all (by kernel_rfl)) (fun p hp => by cases hp)
noncomputable def cadastreref0_CopyTokens_enc (r : (List S68)) : AV UU := .own (.l68 r)
noncomputable def cadastreref0_CopyTokens_dec (v : AV UU) (_ : List (List (AV UU))) : Option (List S68) :=
asO_l68 v fun r =>
some r
theorem cadastreref0_CopyTokens_dec_enc (v : AV UU) (b : List (List (AV UU))) (r : (List S68)) (h : cadastreref0_CopyTokens_dec v b = some r) : v = cadastreref0_CopyTokens_enc r := by
  unfold cadastreref0_CopyTokens_dec at h
  replace h := asO_l68_inv h; obtain ⟨r, rfl, h⟩ := h
  cases h
  rfl
theorem cadastreref0_CopyTokens_eq (k : Nat) (l0 : List S68) : bodyK UX (cadastreref0_CopyTokens_cfg k) (cadastreref0_CopyTokens_G k) Try.f43 [.pv (.typ (.l68 l0))] [] cadastreref0_CopyTokens_dec = cadastreref0_CopyTokens k l0 := by kernel_rfl
theorem cadastreref0_CopyTokens_con (k : Nat) (l0 : List S68) (r : (List S68)) (h : cadastreref0_CopyTokens k l0 = some r) : Con (X := UX) Try.prog 43 [.pv (.typ (.l68 l0))] [] (cadastreref0_CopyTokens_enc r) [] :=
  con_of_body xok tok Try.func43 cadastreref0_CopyTokens_body (cadastreref0_CopyTokens_gok k) rfl (cadastreref0_CopyTokens_cok k) (of_decide_eq_true (by kernel_rfl)) cadastreref0_CopyTokens_dec_enc ((cadastreref0_CopyTokens_eq k l0).trans h)
noncomputable def cadastreref0_CopyTokens_an {ρ : Type} (k : Nat) : An UX ρ := fun args bx K =>
popA args fun v1 a2 =>
as_l68 v1 fun l0 =>
popN a2 <|
popN bx <|
(cadastreref0_CopyTokens k l0).bind fun r => K (cadastreref0_CopyTokens_enc r) []
theorem cadastreref0_CopyTokens_ok {ρ : Type} (k : Nat) : AnsOK Try.prog 43 (cadastreref0_CopyTokens_an (ρ := ρ) k) := by
  intro args bx K r h
  unfold cadastreref0_CopyTokens_an at h
  replace h := popA_inv h; obtain ⟨v1, a2, rfl, h⟩ := h
  replace h := as_l68_inv h; obtain ⟨l0, rfl, h⟩ := h
  replace h := popN_inv h; obtain ⟨rfl, h⟩ := h
  replace h := popN_inv h; obtain ⟨rfl, h⟩ := h
  replace h := bind_inv h
  obtain ⟨x, hx, h⟩ := h
  exact ⟨there_of Try.func43 (by kernel_rfl) cadastreref0_CopyTokens_body, _, _, h, cadastreref0_CopyTokens_con k l0 x hx⟩

/-! cadastre/cadastrelaw19.wakes -/
noncomputable def cadastrelaw19_wakes_code : Code := match Try.f42.body with | some c => c | none => .skip
theorem cadastrelaw19_wakes_body : Try.f42.body = some cadastrelaw19_wakes_code := by kernel_rfl
noncomputable def cadastrelaw19_wakes_G {ρ : Type} (k : Nat) : Ans UX ρ := gk 37 (lex_Tokens_an k) (gk 39 (cadastrelaw19_num_an k) (gk 40 (cadastreref0_EqTokens_an k) (gnil)))
theorem cadastrelaw19_wakes_gok {ρ : Type} (k : Nat) : GOK Try.prog (cadastrelaw19_wakes_G (ρ := ρ) k) := gok_cons (lex_Tokens_ok k) (gok_cons (cadastrelaw19_num_ok k) (gok_cons (cadastreref0_EqTokens_ok k) (gok_nil)))
noncomputable def cadastrelaw19_wakes_cfg {ρ : Type} (k : Nat) : Cfg UX ρ where
  live i := (assoc [(0, []), (1, []), (2, [1, 2])] i).getD []
  boxes i := (assoc [(0, []), (1, []), (2, [])] i).getD []
  tk i := (assoc [] i).getD []
  n := 17
  labelR l := (assoc [] l).getD 0
  loops := assoc []
  labels := assoc []
  joins := assoc []
  xl i e := match e with
    | .nxt => assoc [] i
    | .ret => assoc [] i
    | .exit j => (assoc [] i).bind fun l => assoc l j
    | .goto j => (assoc [] i).bind fun l => assoc l j
noncomputable def cadastrelaw19_wakes_L : List Code := selI [] (loopsOf cadastrelaw19_wakes_code)
noncomputable def cadastrelaw19_wakes_J : List Code := selI [] (joinsOf cadastrelaw19_wakes_code)
noncomputable def cadastrelaw19_wakes_S : List Code := scopesOf cadastrelaw19_wakes_code
theorem cadastrelaw19_wakes_cok {ρ : Type} (k : Nat) : COK (cadastrelaw19_wakes_cfg (ρ := ρ) k) (cadastrelaw19_wakes_G k) cadastrelaw19_wakes_code :=
  cok_of (tl := []) (tj := []) (tb := []) rfl rfl rfl (nil_all (by kernel_rfl)) (nil_all (by kernel_rfl)) (fun p hp => by cases hp)
noncomputable def cadastrelaw19_wakes_enc (r : Bool) : AV UU := .pv (.bool r)
noncomputable def cadastrelaw19_wakes_dec (v : AV UU) (_ : List (List (AV UU))) : Option Bool :=
asB v fun r0 =>
some r0
theorem cadastrelaw19_wakes_dec_enc (v : AV UU) (b : List (List (AV UU))) (r : Bool) (h : cadastrelaw19_wakes_dec v b = some r) : v = cadastrelaw19_wakes_enc r := by
  unfold cadastrelaw19_wakes_dec at h
  replace h := asB_inv h; obtain ⟨r0, rfl, h⟩ := h
  cases h
  rfl
theorem cadastrelaw19_wakes_eq (k : Nat) : bodyK UX (cadastrelaw19_wakes_cfg k) (cadastrelaw19_wakes_G k) Try.f42 [] [] cadastrelaw19_wakes_dec = cadastrelaw19_wakes k := by kernel_rfl
theorem cadastrelaw19_wakes_con (k : Nat) (r : Bool) (h : cadastrelaw19_wakes k = some r) : Con (X := UX) Try.prog 42 [] [] (cadastrelaw19_wakes_enc r) [] :=
  con_of_body xok tok Try.func42 cadastrelaw19_wakes_body (cadastrelaw19_wakes_gok k) rfl (cadastrelaw19_wakes_cok k) (of_decide_eq_true (by kernel_rfl)) cadastrelaw19_wakes_dec_enc ((cadastrelaw19_wakes_eq k).trans h)
noncomputable def cadastrelaw19_wakes_an {ρ : Type} (k : Nat) : An UX ρ := fun args bx K =>
popN args <|
popN bx <|
(cadastrelaw19_wakes k).bind fun r => K (cadastrelaw19_wakes_enc r) []
theorem cadastrelaw19_wakes_ok {ρ : Type} (k : Nat) : AnsOK Try.prog 42 (cadastrelaw19_wakes_an (ρ := ρ) k) := by
  intro args bx K r h
  unfold cadastrelaw19_wakes_an at h
  replace h := popN_inv h; obtain ⟨rfl, h⟩ := h
  replace h := popN_inv h; obtain ⟨rfl, h⟩ := h
  replace h := bind_inv h
  obtain ⟨x, hx, h⟩ := h
  exact ⟨there_of Try.func42 (by kernel_rfl) cadastrelaw19_wakes_body, _, _, h, cadastrelaw19_wakes_con k x hx⟩

/-! cadastre/cadastrelaw19.LexBlanks -/
noncomputable def cadastrelaw19_LexBlanks_code : Code := match Try.f10.body with | some c => c | none => .skip
theorem cadastrelaw19_LexBlanks_body : Try.f10.body = some cadastrelaw19_LexBlanks_code := by kernel_rfl
noncomputable def cadastrelaw19_LexBlanks_G {ρ : Type} (k : Nat) : Ans UX ρ := gk 37 (lex_Tokens_an k) (gk 39 (cadastrelaw19_num_an k) (gk 40 (cadastreref0_EqTokens_an k) (gk 43 (cadastreref0_CopyTokens_an k) (gk 42 (cadastrelaw19_wakes_an k) (gnil)))))
theorem cadastrelaw19_LexBlanks_gok {ρ : Type} (k : Nat) : GOK Try.prog (cadastrelaw19_LexBlanks_G (ρ := ρ) k) := gok_cons (lex_Tokens_ok k) (gok_cons (cadastrelaw19_num_ok k) (gok_cons (cadastreref0_EqTokens_ok k) (gok_cons (cadastreref0_CopyTokens_ok k) (gok_cons (cadastrelaw19_wakes_ok k) (gok_nil)))))
noncomputable def cadastrelaw19_LexBlanks_j12_s {ρ : Type} (k : Nat) : Run UX ρ := fun s K =>
popS 0 s.env fun v1 e2 =>
as_ls v1 fun l0 =>
popS 3 e2 fun v3 e4 =>
asI .i64 v3 fun i3 =>
popS 4 e4 fun v5 e6 =>
as_l68 v5 fun a4 =>
popS 6 e6 fun v7 e8 =>
as_l68 v7 fun b6 =>
popN e8 <|
popN s.hp <|
cadastrelaw19_LexBlanks_j12 k (fun t2 => K .ret ⟨[(2, .pv (.bool t2))], []⟩) (fun l0 i3 => K .nxt ⟨[(0, .pv (.typ (.ls l0))), (3, .pv (.int .i64 i3))], []⟩) l0 i3 a4 b6
noncomputable def cadastrelaw19_LexBlanks_j11_s {ρ : Type} (k : Nat) : Run UX ρ := fun s K =>
popS 0 s.env fun v1 e2 =>
as_ls v1 fun l0 =>
popS 3 e2 fun v3 e4 =>
asI .i64 v3 fun i3 =>
popS 4 e4 fun v5 e6 =>
as_l68 v5 fun a4 =>
popS 5 e6 fun v7 e8 =>
asI .i64 v7 fun e5 =>
popS 6 e8 fun v9 e10 =>
as_l68 v9 fun b6 =>
popS 7 e10 fun v11 e12 =>
asI .i64 v11 fun f7 =>
popN e12 <|
popN s.hp <|
cadastrelaw19_LexBlanks_j11 k (fun t2 => K .ret ⟨[(2, .pv (.bool t2))], []⟩) (fun l0 i3 => K .nxt ⟨[(0, .pv (.typ (.ls l0))), (3, .pv (.int .i64 i3))], []⟩) l0 i3 a4 e5 b6 f7
noncomputable def cadastrelaw19_LexBlanks_j4_s {ρ : Type} (k : Nat) : Run UX ρ := fun s K =>
popS 0 s.env fun v1 e2 =>
as_ls v1 fun l0 =>
popS 3 e2 fun v3 e4 =>
asI .i64 v3 fun i3 =>
popN e4 <|
popN s.hp <|
cadastrelaw19_LexBlanks_j4 k (fun t2 => K .ret ⟨[(2, .pv (.bool t2))], []⟩) (fun l0 i3 => K .nxt ⟨[(0, .pv (.typ (.ls l0))), (3, .pv (.int .i64 i3))], []⟩) l0 i3
noncomputable def cadastrelaw19_LexBlanks_l2_s {ρ : Type} (k : Nat) : Run UX ρ := fun s K =>
popS 0 s.env fun v1 e2 =>
as_ls v1 fun l0 =>
popS 3 e2 fun v3 e4 =>
asI .i64 v3 fun i3 =>
popN e4 <|
popN s.hp <|
cadastrelaw19_LexBlanks_l2 k (fun t2 => K .ret ⟨[(2, .pv (.bool t2))], []⟩) (K (.exit 0) ⟨[], []⟩) k l0 i3
noncomputable def cadastrelaw19_LexBlanks_cfg {ρ : Type} (k : Nat) : Cfg UX ρ where
  live i := (assoc [(0, [0]), (1, [0]), (2, [0, 3]), (3, [0, 3]), (4, [0, 3]), (5, []), (6, [0, 3]), (7, [0, 3, 4, 5]), (8, [0, 3, 4, 5, 6, 7]), (9, [0, 3, 4, 5, 6, 7, 8, 9]), (10, []), (11, [0, 3, 4, 5, 6, 7]), (12, [0, 3, 4, 6]), (13, [0, 3, 4, 6, 10, 11]), (14, []), (15, []), (16, [12, 13])] i).getD []
  boxes i := (assoc [(0, []), (1, []), (2, []), (3, []), (4, []), (5, []), (6, []), (7, []), (8, []), (9, []), (10, []), (11, []), (12, []), (13, []), (14, []), (15, []), (16, [])] i).getD []
  tk i := (assoc [] i).getD []
  n := 131
  labelR l := (assoc [] l).getD 0
  loops := assoc [(2, cadastrelaw19_LexBlanks_l2_s k)]
  labels := assoc []
  joins := assoc [(12, cadastrelaw19_LexBlanks_j12_s k), (11, cadastrelaw19_LexBlanks_j11_s k), (4, cadastrelaw19_LexBlanks_j4_s k)]
  xl i e := match e with
    | .nxt => assoc [(12, ([0, 3], [])), (11, ([0, 3], [])), (4, ([0, 3], []))] i
    | .ret => assoc [(12, ([2], [])), (11, ([2], [])), (4, ([2], [])), (2, ([2], []))] i
    | .exit j => (assoc [(2, [(0, ([], []))])] i).bind fun l => assoc l j
    | .goto j => (assoc [] i).bind fun l => assoc l j
noncomputable def cadastrelaw19_LexBlanks_L : List Code := selI [2] (loopsOf cadastrelaw19_LexBlanks_code)
noncomputable def cadastrelaw19_LexBlanks_J : List Code := selI [12, 11, 4] (joinsOf cadastrelaw19_LexBlanks_code)
noncomputable def cadastrelaw19_LexBlanks_S : List Code := scopesOf cadastrelaw19_LexBlanks_code
theorem cadastrelaw19_LexBlanks_l2_eq0 {ρ : Type} (k : Nat) (K : Ex → St UU → Option ρ) : ∀ (n : Nat) (v : (List ByteArray) × Int), iterK UX (fun s => s.at (cadastrelaw19_LexBlanks_cfg (ρ := ρ) k).live (cadastrelaw19_LexBlanks_cfg (ρ := ρ) k).boxes (some 2)) (exec UX (cadastrelaw19_LexBlanks_cfg k) (cadastrelaw19_LexBlanks_G k) (cadastrelaw19_LexBlanks_L.getD 0 .skip)) n ⟨[(0, .pv (.typ (.ls v.1))), (3, .pv (.int .i64 v.2))], []⟩ (nrmK UX (cadastrelaw19_LexBlanks_cfg k) 2 K) = cadastrelaw19_LexBlanks_l2 k (fun t2 => K .ret ⟨[(2, .pv (.bool t2))], []⟩) (K (.exit 0) ⟨[], []⟩) n v.1 v.2 :=
  iter_rec (X := UX) (fun v => ⟨[(0, .pv (.typ (.ls v.1))), (3, .pv (.int .i64 v.2))], []⟩) (fun rec v => cadastrelaw19_LexBlanks_l2_b k (fun t2 => K .ret ⟨[(2, .pv (.bool t2))], []⟩) (K (.exit 0) ⟨[], []⟩) (fun l0 i3 => rec (l0, i3)) v.1 v.2) (fun n v => cadastrelaw19_LexBlanks_l2 k (fun t2 => K .ret ⟨[(2, .pv (.bool t2))], []⟩) (K (.exit 0) ⟨[], []⟩) n v.1 v.2) (fun n v => by kernel_rfl) (fun _ => rfl) (fun _ _ => rfl)
theorem cadastrelaw19_LexBlanks_l2_ok0 {ρ : Type} (k : Nat) : IterOK UX (cadastrelaw19_LexBlanks_cfg (ρ := ρ) k) (cadastrelaw19_LexBlanks_G k) (cadastrelaw19_LexBlanks_L.getD 0 .skip) 2 (cadastrelaw19_LexBlanks_l2_s k) := by
  intro s K r h
  obtain ⟨env, hp⟩ := s
  unfold cadastrelaw19_LexBlanks_l2_s at h
  replace h := popS_inv h; obtain ⟨v1, e2, rfl, h⟩ := h
  replace h := as_ls_inv h; obtain ⟨l0, rfl, h⟩ := h
  replace h := popS_inv h; obtain ⟨v3, e4, rfl, h⟩ := h
  replace h := asI_inv h; obtain ⟨i3, rfl, h⟩ := h
  replace h := popN_inv h; obtain ⟨rfl, h⟩ := h
  replace h := popN_inv h; obtain ⟨rfl, h⟩ := h
  exact ⟨k, (cadastrelaw19_LexBlanks_l2_eq0 k K k (l0, i3)).trans h⟩
theorem cadastrelaw19_LexBlanks_j4_eq0 {ρ : Type} (k : Nat) (K : Ex → St UU → Option ρ) (l0 : List ByteArray) (i3 : Int) : exec UX (cadastrelaw19_LexBlanks_cfg k) (cadastrelaw19_LexBlanks_G k) (cadastrelaw19_LexBlanks_J.getD 0 .skip) ⟨[(0, .pv (.typ (.ls l0))), (3, .pv (.int .i64 i3))], []⟩ (nrmK UX (cadastrelaw19_LexBlanks_cfg k) 4 K) = cadastrelaw19_LexBlanks_j4 k (fun t2 => K .ret ⟨[(2, .pv (.bool t2))], []⟩) (fun l0 i3 => K .nxt ⟨[(0, .pv (.typ (.ls l0))), (3, .pv (.int .i64 i3))], []⟩) l0 i3 := by kernel_rfl
theorem cadastrelaw19_LexBlanks_j4_ok0 {ρ : Type} (k : Nat) : JoinOK UX (cadastrelaw19_LexBlanks_cfg (ρ := ρ) k) (cadastrelaw19_LexBlanks_G k) (cadastrelaw19_LexBlanks_J.getD 0 .skip) 4 (cadastrelaw19_LexBlanks_j4_s k) := by
  intro s K r h
  obtain ⟨env, hp⟩ := s
  unfold cadastrelaw19_LexBlanks_j4_s at h
  replace h := popS_inv h; obtain ⟨v1, e2, rfl, h⟩ := h
  replace h := as_ls_inv h; obtain ⟨l0, rfl, h⟩ := h
  replace h := popS_inv h; obtain ⟨v3, e4, rfl, h⟩ := h
  replace h := asI_inv h; obtain ⟨i3, rfl, h⟩ := h
  replace h := popN_inv h; obtain ⟨rfl, h⟩ := h
  replace h := popN_inv h; obtain ⟨rfl, h⟩ := h
  exact (cadastrelaw19_LexBlanks_j4_eq0 k K l0 i3).trans h
theorem cadastrelaw19_LexBlanks_j11_eq1 {ρ : Type} (k : Nat) (K : Ex → St UU → Option ρ) (l0 : List ByteArray) (i3 : Int) (a4 : List S68) (e5 : Int) (b6 : List S68) (f7 : Int) : exec UX (cadastrelaw19_LexBlanks_cfg k) (cadastrelaw19_LexBlanks_G k) (cadastrelaw19_LexBlanks_J.getD 1 .skip) ⟨[(0, .pv (.typ (.ls l0))), (3, .pv (.int .i64 i3)), (4, .pv (.typ (.l68 a4))), (5, .pv (.int .i64 e5)), (6, .pv (.typ (.l68 b6))), (7, .pv (.int .i64 f7))], []⟩ (nrmK UX (cadastrelaw19_LexBlanks_cfg k) 11 K) = cadastrelaw19_LexBlanks_j11 k (fun t2 => K .ret ⟨[(2, .pv (.bool t2))], []⟩) (fun l0 i3 => K .nxt ⟨[(0, .pv (.typ (.ls l0))), (3, .pv (.int .i64 i3))], []⟩) l0 i3 a4 e5 b6 f7 := by kernel_rfl
theorem cadastrelaw19_LexBlanks_j11_ok1 {ρ : Type} (k : Nat) : JoinOK UX (cadastrelaw19_LexBlanks_cfg (ρ := ρ) k) (cadastrelaw19_LexBlanks_G k) (cadastrelaw19_LexBlanks_J.getD 1 .skip) 11 (cadastrelaw19_LexBlanks_j11_s k) := by
  intro s K r h
  obtain ⟨env, hp⟩ := s
  unfold cadastrelaw19_LexBlanks_j11_s at h
  replace h := popS_inv h; obtain ⟨v1, e2, rfl, h⟩ := h
  replace h := as_ls_inv h; obtain ⟨l0, rfl, h⟩ := h
  replace h := popS_inv h; obtain ⟨v3, e4, rfl, h⟩ := h
  replace h := asI_inv h; obtain ⟨i3, rfl, h⟩ := h
  replace h := popS_inv h; obtain ⟨v5, e6, rfl, h⟩ := h
  replace h := as_l68_inv h; obtain ⟨a4, rfl, h⟩ := h
  replace h := popS_inv h; obtain ⟨v7, e8, rfl, h⟩ := h
  replace h := asI_inv h; obtain ⟨e5, rfl, h⟩ := h
  replace h := popS_inv h; obtain ⟨v9, e10, rfl, h⟩ := h
  replace h := as_l68_inv h; obtain ⟨b6, rfl, h⟩ := h
  replace h := popS_inv h; obtain ⟨v11, e12, rfl, h⟩ := h
  replace h := asI_inv h; obtain ⟨f7, rfl, h⟩ := h
  replace h := popN_inv h; obtain ⟨rfl, h⟩ := h
  replace h := popN_inv h; obtain ⟨rfl, h⟩ := h
  exact (cadastrelaw19_LexBlanks_j11_eq1 k K l0 i3 a4 e5 b6 f7).trans h
theorem cadastrelaw19_LexBlanks_j12_eq2 {ρ : Type} (k : Nat) (K : Ex → St UU → Option ρ) (l0 : List ByteArray) (i3 : Int) (a4 : List S68) (b6 : List S68) : exec UX (cadastrelaw19_LexBlanks_cfg k) (cadastrelaw19_LexBlanks_G k) (cadastrelaw19_LexBlanks_J.getD 2 .skip) ⟨[(0, .pv (.typ (.ls l0))), (3, .pv (.int .i64 i3)), (4, .pv (.typ (.l68 a4))), (6, .pv (.typ (.l68 b6)))], []⟩ (nrmK UX (cadastrelaw19_LexBlanks_cfg k) 12 K) = cadastrelaw19_LexBlanks_j12 k (fun t2 => K .ret ⟨[(2, .pv (.bool t2))], []⟩) (fun l0 i3 => K .nxt ⟨[(0, .pv (.typ (.ls l0))), (3, .pv (.int .i64 i3))], []⟩) l0 i3 a4 b6 := by kernel_rfl
theorem cadastrelaw19_LexBlanks_j12_ok2 {ρ : Type} (k : Nat) : JoinOK UX (cadastrelaw19_LexBlanks_cfg (ρ := ρ) k) (cadastrelaw19_LexBlanks_G k) (cadastrelaw19_LexBlanks_J.getD 2 .skip) 12 (cadastrelaw19_LexBlanks_j12_s k) := by
  intro s K r h
  obtain ⟨env, hp⟩ := s
  unfold cadastrelaw19_LexBlanks_j12_s at h
  replace h := popS_inv h; obtain ⟨v1, e2, rfl, h⟩ := h
  replace h := as_ls_inv h; obtain ⟨l0, rfl, h⟩ := h
  replace h := popS_inv h; obtain ⟨v3, e4, rfl, h⟩ := h
  replace h := asI_inv h; obtain ⟨i3, rfl, h⟩ := h
  replace h := popS_inv h; obtain ⟨v5, e6, rfl, h⟩ := h
  replace h := as_l68_inv h; obtain ⟨a4, rfl, h⟩ := h
  replace h := popS_inv h; obtain ⟨v7, e8, rfl, h⟩ := h
  replace h := as_l68_inv h; obtain ⟨b6, rfl, h⟩ := h
  replace h := popN_inv h; obtain ⟨rfl, h⟩ := h
  replace h := popN_inv h; obtain ⟨rfl, h⟩ := h
  exact (cadastrelaw19_LexBlanks_j12_eq2 k K l0 i3 a4 b6).trans h
theorem cadastrelaw19_LexBlanks_cok {ρ : Type} (k : Nat) : COK (cadastrelaw19_LexBlanks_cfg (ρ := ρ) k) (cadastrelaw19_LexBlanks_G k) cadastrelaw19_LexBlanks_code :=
  cok_of (tl := [(2, cadastrelaw19_LexBlanks_l2_s k)]) (tj := [(12, cadastrelaw19_LexBlanks_j12_s k), (11, cadastrelaw19_LexBlanks_j11_s k), (4, cadastrelaw19_LexBlanks_j4_s k)]) (tb := []) rfl rfl rfl (all_nth 1 (by kernel_rfl) ⟨iter_case (by kernel_rfl) rfl (cadastrelaw19_LexBlanks_l2_ok0 k), trivial⟩) (all_nth 3 (by kernel_rfl) ⟨join_case (by kernel_rfl) rfl (cadastrelaw19_LexBlanks_j12_ok2 k), join_case (by kernel_rfl) rfl (cadastrelaw19_LexBlanks_j11_ok1 k), join_case (by kernel_rfl) rfl (cadastrelaw19_LexBlanks_j4_ok0 k), trivial⟩) (fun p hp => by cases hp)
noncomputable def cadastrelaw19_LexBlanks_enc (r : Bool) : AV UU := .pv (.bool r)
noncomputable def cadastrelaw19_LexBlanks_dec (v : AV UU) (_ : List (List (AV UU))) : Option Bool :=
asB v fun r0 =>
some r0
theorem cadastrelaw19_LexBlanks_dec_enc (v : AV UU) (b : List (List (AV UU))) (r : Bool) (h : cadastrelaw19_LexBlanks_dec v b = some r) : v = cadastrelaw19_LexBlanks_enc r := by
  unfold cadastrelaw19_LexBlanks_dec at h
  replace h := asB_inv h; obtain ⟨r0, rfl, h⟩ := h
  cases h
  rfl
theorem cadastrelaw19_LexBlanks_eq (k : Nat) (l0 : List ByteArray) : bodyK UX (cadastrelaw19_LexBlanks_cfg k) (cadastrelaw19_LexBlanks_G k) Try.f10 [.pv (.typ (.ls l0))] [] cadastrelaw19_LexBlanks_dec = cadastrelaw19_LexBlanks k l0 := by kernel_rfl
theorem cadastrelaw19_LexBlanks_con (k : Nat) (l0 : List ByteArray) (r : Bool) (h : cadastrelaw19_LexBlanks k l0 = some r) : Con (X := UX) Try.prog 10 [.pv (.typ (.ls l0))] [] (cadastrelaw19_LexBlanks_enc r) [] :=
  con_of_body xok tok Try.func10 cadastrelaw19_LexBlanks_body (cadastrelaw19_LexBlanks_gok k) rfl (cadastrelaw19_LexBlanks_cok k) (of_decide_eq_true (by kernel_rfl)) cadastrelaw19_LexBlanks_dec_enc ((cadastrelaw19_LexBlanks_eq k l0).trans h)
noncomputable def cadastrelaw19_LexBlanks_an {ρ : Type} (k : Nat) : An UX ρ := fun args bx K =>
popA args fun v1 a2 =>
as_ls v1 fun l0 =>
popN a2 <|
popN bx <|
(cadastrelaw19_LexBlanks k l0).bind fun r => K (cadastrelaw19_LexBlanks_enc r) []
theorem cadastrelaw19_LexBlanks_ok {ρ : Type} (k : Nat) : AnsOK Try.prog 10 (cadastrelaw19_LexBlanks_an (ρ := ρ) k) := by
  intro args bx K r h
  unfold cadastrelaw19_LexBlanks_an at h
  replace h := popA_inv h; obtain ⟨v1, a2, rfl, h⟩ := h
  replace h := as_ls_inv h; obtain ⟨l0, rfl, h⟩ := h
  replace h := popN_inv h; obtain ⟨rfl, h⟩ := h
  replace h := popN_inv h; obtain ⟨rfl, h⟩ := h
  replace h := bind_inv h
  obtain ⟨x, hx, h⟩ := h
  exact ⟨there_of Try.func10 (by kernel_rfl) cadastrelaw19_LexBlanks_body, _, _, h, cadastrelaw19_LexBlanks_con k l0 x hx⟩

/-! cadastre/cadastrelaw19.LexTexts -/
noncomputable def cadastrelaw19_LexTexts_code : Code := match Try.f11.body with | some c => c | none => .skip
theorem cadastrelaw19_LexTexts_body : Try.f11.body = some cadastrelaw19_LexTexts_code := by kernel_rfl
noncomputable def cadastrelaw19_LexTexts_G {ρ : Type} (k : Nat) : Ans UX ρ := gk 37 (lex_Tokens_an k) (gk 39 (cadastrelaw19_num_an k) (gk 40 (cadastreref0_EqTokens_an k) (gk 42 (cadastrelaw19_wakes_an k) (gnil))))
theorem cadastrelaw19_LexTexts_gok {ρ : Type} (k : Nat) : GOK Try.prog (cadastrelaw19_LexTexts_G (ρ := ρ) k) := gok_cons (lex_Tokens_ok k) (gok_cons (cadastrelaw19_num_ok k) (gok_cons (cadastreref0_EqTokens_ok k) (gok_cons (cadastrelaw19_wakes_ok k) (gok_nil))))
noncomputable def cadastrelaw19_LexTexts_l8_s {ρ : Type} (k : Nat) : Run UX ρ := fun s K =>
popS 0 s.env fun v1 e2 =>
as_ls v1 fun l0 =>
popS 3 e2 fun v3 e4 =>
asI .i64 v3 fun i3 =>
popS 4 e4 fun v5 e6 =>
asO_li_u8 v5 fun q4 =>
popS 5 e6 fun v7 e8 =>
asI .i64 v7 fun k5 =>
popN e8 <|
popN s.hp <|
cadastrelaw19_LexTexts_l8 k (fun l0 i3 q4 => K (.exit 2) ⟨[(0, .pv (.typ (.ls l0))), (3, .pv (.int .i64 i3)), (4, .own (.li_u8 q4))], []⟩) k l0 i3 q4 k5
noncomputable def cadastrelaw19_LexTexts_j4_s {ρ : Type} (k : Nat) : Run UX ρ := fun s K =>
popS 0 s.env fun v1 e2 =>
as_ls v1 fun l0 =>
popS 3 e2 fun v3 e4 =>
asI .i64 v3 fun i3 =>
popN e4 <|
popN s.hp <|
cadastrelaw19_LexTexts_j4 k (fun t2 => K .ret ⟨[(2, .pv (.bool t2))], []⟩) (fun l0 i3 => K .nxt ⟨[(0, .pv (.typ (.ls l0))), (3, .pv (.int .i64 i3))], []⟩) l0 i3
noncomputable def cadastrelaw19_LexTexts_l2_s {ρ : Type} (k : Nat) : Run UX ρ := fun s K =>
popS 0 s.env fun v1 e2 =>
as_ls v1 fun l0 =>
popS 3 e2 fun v3 e4 =>
asI .i64 v3 fun i3 =>
popN e4 <|
popN s.hp <|
cadastrelaw19_LexTexts_l2 k (fun t2 => K .ret ⟨[(2, .pv (.bool t2))], []⟩) (K (.exit 0) ⟨[], []⟩) k l0 i3
noncomputable def cadastrelaw19_LexTexts_cfg {ρ : Type} (k : Nat) : Cfg UX ρ where
  live i := (assoc [(0, [0]), (1, [0]), (2, [0, 3]), (3, [0, 3]), (4, [0, 3]), (5, []), (6, [0, 3]), (7, [0, 3, 4]), (8, [0, 3, 4, 5]), (9, [0, 3, 4, 5]), (10, [0, 3, 4, 5]), (11, [0, 3, 4, 5]), (12, [0, 3, 4, 5]), (13, [0, 3, 4]), (14, [0, 3, 4]), (15, [0, 3, 6, 7]), (16, []), (17, [])] i).getD []
  boxes i := (assoc [(0, []), (1, []), (2, []), (3, []), (4, []), (5, []), (6, []), (7, []), (8, []), (9, []), (10, []), (11, []), (12, []), (13, []), (14, []), (15, []), (16, []), (17, [])] i).getD []
  tk i := (assoc [] i).getD []
  n := 77
  labelR l := (assoc [] l).getD 0
  loops := assoc [(8, cadastrelaw19_LexTexts_l8_s k), (2, cadastrelaw19_LexTexts_l2_s k)]
  labels := assoc []
  joins := assoc [(4, cadastrelaw19_LexTexts_j4_s k)]
  xl i e := match e with
    | .nxt => assoc [(4, ([0, 3], []))] i
    | .ret => assoc [(4, ([2], [])), (2, ([2], []))] i
    | .exit j => (assoc [(8, [(2, ([0, 3, 4], []))]), (2, [(0, ([], []))])] i).bind fun l => assoc l j
    | .goto j => (assoc [] i).bind fun l => assoc l j
noncomputable def cadastrelaw19_LexTexts_L : List Code := selI [8, 2] (loopsOf cadastrelaw19_LexTexts_code)
noncomputable def cadastrelaw19_LexTexts_J : List Code := selI [4] (joinsOf cadastrelaw19_LexTexts_code)
noncomputable def cadastrelaw19_LexTexts_S : List Code := scopesOf cadastrelaw19_LexTexts_code
theorem cadastrelaw19_LexTexts_l2_eq0 {ρ : Type} (k : Nat) (K : Ex → St UU → Option ρ) : ∀ (n : Nat) (v : (List ByteArray) × Int), iterK UX (fun s => s.at (cadastrelaw19_LexTexts_cfg (ρ := ρ) k).live (cadastrelaw19_LexTexts_cfg (ρ := ρ) k).boxes (some 2)) (exec UX (cadastrelaw19_LexTexts_cfg k) (cadastrelaw19_LexTexts_G k) (cadastrelaw19_LexTexts_L.getD 0 .skip)) n ⟨[(0, .pv (.typ (.ls v.1))), (3, .pv (.int .i64 v.2))], []⟩ (nrmK UX (cadastrelaw19_LexTexts_cfg k) 2 K) = cadastrelaw19_LexTexts_l2 k (fun t2 => K .ret ⟨[(2, .pv (.bool t2))], []⟩) (K (.exit 0) ⟨[], []⟩) n v.1 v.2 :=
  iter_rec (X := UX) (fun v => ⟨[(0, .pv (.typ (.ls v.1))), (3, .pv (.int .i64 v.2))], []⟩) (fun rec v => cadastrelaw19_LexTexts_l2_b k (fun t2 => K .ret ⟨[(2, .pv (.bool t2))], []⟩) (K (.exit 0) ⟨[], []⟩) (fun l0 i3 => rec (l0, i3)) v.1 v.2) (fun n v => cadastrelaw19_LexTexts_l2 k (fun t2 => K .ret ⟨[(2, .pv (.bool t2))], []⟩) (K (.exit 0) ⟨[], []⟩) n v.1 v.2) (fun n v => by kernel_rfl) (fun _ => rfl) (fun _ _ => rfl)
theorem cadastrelaw19_LexTexts_l2_ok0 {ρ : Type} (k : Nat) : IterOK UX (cadastrelaw19_LexTexts_cfg (ρ := ρ) k) (cadastrelaw19_LexTexts_G k) (cadastrelaw19_LexTexts_L.getD 0 .skip) 2 (cadastrelaw19_LexTexts_l2_s k) := by
  intro s K r h
  obtain ⟨env, hp⟩ := s
  unfold cadastrelaw19_LexTexts_l2_s at h
  replace h := popS_inv h; obtain ⟨v1, e2, rfl, h⟩ := h
  replace h := as_ls_inv h; obtain ⟨l0, rfl, h⟩ := h
  replace h := popS_inv h; obtain ⟨v3, e4, rfl, h⟩ := h
  replace h := asI_inv h; obtain ⟨i3, rfl, h⟩ := h
  replace h := popN_inv h; obtain ⟨rfl, h⟩ := h
  replace h := popN_inv h; obtain ⟨rfl, h⟩ := h
  exact ⟨k, (cadastrelaw19_LexTexts_l2_eq0 k K k (l0, i3)).trans h⟩
theorem cadastrelaw19_LexTexts_l8_eq1 {ρ : Type} (k : Nat) (K : Ex → St UU → Option ρ) : ∀ (n : Nat) (v : (List ByteArray) × Int × (List Int) × Int), iterK UX (fun s => s.at (cadastrelaw19_LexTexts_cfg (ρ := ρ) k).live (cadastrelaw19_LexTexts_cfg (ρ := ρ) k).boxes (some 8)) (exec UX (cadastrelaw19_LexTexts_cfg k) (cadastrelaw19_LexTexts_G k) (cadastrelaw19_LexTexts_L.getD 1 .skip)) n ⟨[(0, .pv (.typ (.ls v.1))), (3, .pv (.int .i64 v.2.1)), (4, .own (.li_u8 v.2.2.1)), (5, .pv (.int .i64 v.2.2.2))], []⟩ (nrmK UX (cadastrelaw19_LexTexts_cfg k) 8 K) = cadastrelaw19_LexTexts_l8 k (fun l0 i3 q4 => K (.exit 2) ⟨[(0, .pv (.typ (.ls l0))), (3, .pv (.int .i64 i3)), (4, .own (.li_u8 q4))], []⟩) n v.1 v.2.1 v.2.2.1 v.2.2.2 :=
  iter_rec (X := UX) (fun v => ⟨[(0, .pv (.typ (.ls v.1))), (3, .pv (.int .i64 v.2.1)), (4, .own (.li_u8 v.2.2.1)), (5, .pv (.int .i64 v.2.2.2))], []⟩) (fun rec v => cadastrelaw19_LexTexts_l8_b k (fun l0 i3 q4 => K (.exit 2) ⟨[(0, .pv (.typ (.ls l0))), (3, .pv (.int .i64 i3)), (4, .own (.li_u8 q4))], []⟩) (fun l0 i3 q4 k5 => rec (l0, i3, q4, k5)) v.1 v.2.1 v.2.2.1 v.2.2.2) (fun n v => cadastrelaw19_LexTexts_l8 k (fun l0 i3 q4 => K (.exit 2) ⟨[(0, .pv (.typ (.ls l0))), (3, .pv (.int .i64 i3)), (4, .own (.li_u8 q4))], []⟩) n v.1 v.2.1 v.2.2.1 v.2.2.2) (fun n v => by kernel_rfl) (fun _ => rfl) (fun _ _ => rfl)
theorem cadastrelaw19_LexTexts_l8_ok1 {ρ : Type} (k : Nat) : IterOK UX (cadastrelaw19_LexTexts_cfg (ρ := ρ) k) (cadastrelaw19_LexTexts_G k) (cadastrelaw19_LexTexts_L.getD 1 .skip) 8 (cadastrelaw19_LexTexts_l8_s k) := by
  intro s K r h
  obtain ⟨env, hp⟩ := s
  unfold cadastrelaw19_LexTexts_l8_s at h
  replace h := popS_inv h; obtain ⟨v1, e2, rfl, h⟩ := h
  replace h := as_ls_inv h; obtain ⟨l0, rfl, h⟩ := h
  replace h := popS_inv h; obtain ⟨v3, e4, rfl, h⟩ := h
  replace h := asI_inv h; obtain ⟨i3, rfl, h⟩ := h
  replace h := popS_inv h; obtain ⟨v5, e6, rfl, h⟩ := h
  replace h := asO_li_u8_inv h; obtain ⟨q4, rfl, h⟩ := h
  replace h := popS_inv h; obtain ⟨v7, e8, rfl, h⟩ := h
  replace h := asI_inv h; obtain ⟨k5, rfl, h⟩ := h
  replace h := popN_inv h; obtain ⟨rfl, h⟩ := h
  replace h := popN_inv h; obtain ⟨rfl, h⟩ := h
  exact ⟨k, (cadastrelaw19_LexTexts_l8_eq1 k K k (l0, i3, q4, k5)).trans h⟩
theorem cadastrelaw19_LexTexts_j4_eq0 {ρ : Type} (k : Nat) (K : Ex → St UU → Option ρ) (l0 : List ByteArray) (i3 : Int) : exec UX (cadastrelaw19_LexTexts_cfg k) (cadastrelaw19_LexTexts_G k) (cadastrelaw19_LexTexts_J.getD 0 .skip) ⟨[(0, .pv (.typ (.ls l0))), (3, .pv (.int .i64 i3))], []⟩ (nrmK UX (cadastrelaw19_LexTexts_cfg k) 4 K) = cadastrelaw19_LexTexts_j4 k (fun t2 => K .ret ⟨[(2, .pv (.bool t2))], []⟩) (fun l0 i3 => K .nxt ⟨[(0, .pv (.typ (.ls l0))), (3, .pv (.int .i64 i3))], []⟩) l0 i3 := by kernel_rfl
theorem cadastrelaw19_LexTexts_j4_ok0 {ρ : Type} (k : Nat) : JoinOK UX (cadastrelaw19_LexTexts_cfg (ρ := ρ) k) (cadastrelaw19_LexTexts_G k) (cadastrelaw19_LexTexts_J.getD 0 .skip) 4 (cadastrelaw19_LexTexts_j4_s k) := by
  intro s K r h
  obtain ⟨env, hp⟩ := s
  unfold cadastrelaw19_LexTexts_j4_s at h
  replace h := popS_inv h; obtain ⟨v1, e2, rfl, h⟩ := h
  replace h := as_ls_inv h; obtain ⟨l0, rfl, h⟩ := h
  replace h := popS_inv h; obtain ⟨v3, e4, rfl, h⟩ := h
  replace h := asI_inv h; obtain ⟨i3, rfl, h⟩ := h
  replace h := popN_inv h; obtain ⟨rfl, h⟩ := h
  replace h := popN_inv h; obtain ⟨rfl, h⟩ := h
  exact (cadastrelaw19_LexTexts_j4_eq0 k K l0 i3).trans h
theorem cadastrelaw19_LexTexts_cok {ρ : Type} (k : Nat) : COK (cadastrelaw19_LexTexts_cfg (ρ := ρ) k) (cadastrelaw19_LexTexts_G k) cadastrelaw19_LexTexts_code :=
  cok_of (tl := [(8, cadastrelaw19_LexTexts_l8_s k), (2, cadastrelaw19_LexTexts_l2_s k)]) (tj := [(4, cadastrelaw19_LexTexts_j4_s k)]) (tb := []) rfl rfl rfl (all_nth 2 (by kernel_rfl) ⟨iter_case (by kernel_rfl) rfl (cadastrelaw19_LexTexts_l8_ok1 k), iter_case (by kernel_rfl) rfl (cadastrelaw19_LexTexts_l2_ok0 k), trivial⟩) (all_nth 1 (by kernel_rfl) ⟨join_case (by kernel_rfl) rfl (cadastrelaw19_LexTexts_j4_ok0 k), trivial⟩) (fun p hp => by cases hp)
noncomputable def cadastrelaw19_LexTexts_enc (r : Bool) : AV UU := .pv (.bool r)
noncomputable def cadastrelaw19_LexTexts_dec (v : AV UU) (_ : List (List (AV UU))) : Option Bool :=
asB v fun r0 =>
some r0
theorem cadastrelaw19_LexTexts_dec_enc (v : AV UU) (b : List (List (AV UU))) (r : Bool) (h : cadastrelaw19_LexTexts_dec v b = some r) : v = cadastrelaw19_LexTexts_enc r := by
  unfold cadastrelaw19_LexTexts_dec at h
  replace h := asB_inv h; obtain ⟨r0, rfl, h⟩ := h
  cases h
  rfl
theorem cadastrelaw19_LexTexts_eq (k : Nat) (l0 : List ByteArray) : bodyK UX (cadastrelaw19_LexTexts_cfg k) (cadastrelaw19_LexTexts_G k) Try.f11 [.pv (.typ (.ls l0))] [] cadastrelaw19_LexTexts_dec = cadastrelaw19_LexTexts k l0 := by kernel_rfl
theorem cadastrelaw19_LexTexts_con (k : Nat) (l0 : List ByteArray) (r : Bool) (h : cadastrelaw19_LexTexts k l0 = some r) : Con (X := UX) Try.prog 11 [.pv (.typ (.ls l0))] [] (cadastrelaw19_LexTexts_enc r) [] :=
  con_of_body xok tok Try.func11 cadastrelaw19_LexTexts_body (cadastrelaw19_LexTexts_gok k) rfl (cadastrelaw19_LexTexts_cok k) (of_decide_eq_true (by kernel_rfl)) cadastrelaw19_LexTexts_dec_enc ((cadastrelaw19_LexTexts_eq k l0).trans h)
noncomputable def cadastrelaw19_LexTexts_an {ρ : Type} (k : Nat) : An UX ρ := fun args bx K =>
popA args fun v1 a2 =>
as_ls v1 fun l0 =>
popN a2 <|
popN bx <|
(cadastrelaw19_LexTexts k l0).bind fun r => K (cadastrelaw19_LexTexts_enc r) []
theorem cadastrelaw19_LexTexts_ok {ρ : Type} (k : Nat) : AnsOK Try.prog 11 (cadastrelaw19_LexTexts_an (ρ := ρ) k) := by
  intro args bx K r h
  unfold cadastrelaw19_LexTexts_an at h
  replace h := popA_inv h; obtain ⟨v1, a2, rfl, h⟩ := h
  replace h := as_ls_inv h; obtain ⟨l0, rfl, h⟩ := h
  replace h := popN_inv h; obtain ⟨rfl, h⟩ := h
  replace h := popN_inv h; obtain ⟨rfl, h⟩ := h
  replace h := bind_inv h
  obtain ⟨x, hx, h⟩ := h
  exact ⟨there_of Try.func11 (by kernel_rfl) cadastrelaw19_LexTexts_body, _, _, h, cadastrelaw19_LexTexts_con k l0 x hx⟩
end Go.Proofs.Ytekjibpkkgldgaa.X
