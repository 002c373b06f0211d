/-
  What the program's functions answer: the printed functions' answers.
-/
import Derived.Test.YtekjibpkkgldgaaXG1
namespace Go.Proofs.Ytekjibpkkgldgaa.X
open Go Go.AX
/-! cadastre/lex.Tokens -/
noncomputable def lex_Tokens_code : Code := match Try.f37.body with | some c => c | none => .skip
theorem lex_Tokens_body : Try.f37.body = some lex_Tokens_code := by kernel_rfl
noncomputable def lex_Tokens_G {ρ : Type} (k : Nat) : Ans UX ρ := gk 62 (lex_skip_an k) (gk 63 (lex_token_an k) (gk 64 (lex_long_an k) (gnil)))
theorem lex_Tokens_gok {ρ : Type} (k : Nat) : GOK Try.prog (lex_Tokens_G (ρ := ρ) k) := gok_cons (lex_skip_ok k) (gok_cons (lex_token_ok k) (gok_cons (lex_long_ok k) (gok_nil)))
noncomputable def lex_Tokens_l6_s {ρ : Type} (k : Nat) : Run UX ρ := fun s K =>
popS 0 s.env fun v1 e2 =>
asS v1 fun s0 =>
popS 4 e2 fun v3 e4 =>
asO_l68 v3 fun l4 =>
popS 5 e4 fun v5 e6 =>
asI .i64 v5 fun e5 =>
popS 6 e6 fun v7 e8 =>
asI .i64 v7 fun at6 =>
popN e8 <|
popN s.hp <|
lex_Tokens_l6 k (fun t2 t3 => K .ret ⟨[(2, .own (.l68 t2)), (3, .pv (.int .i64 t3))], []⟩) (fun l4 e5 => K (.exit 0) ⟨[(4, .own (.l68 l4)), (5, .pv (.int .i64 e5))], []⟩) k s0 l4 e5 at6
noncomputable def lex_Tokens_cfg {ρ : Type} (k : Nat) : Cfg UX ρ where
  live i := (assoc [(0, [0]), (1, [0]), (2, []), (3, [0]), (4, [0, 4]), (5, [0, 4, 5]), (6, [0, 4, 5, 6]), (7, [0, 4, 5, 6]), (8, [0, 4, 5, 6]), (9, [0, 4, 5, 7, 8, 9]), (10, []), (11, [0, 4, 5, 7, 8]), (12, [0, 4, 7, 8]), (13, [0, 4, 5, 7, 8]), (14, [0, 4, 5, 8]), (15, [4, 5]), (16, [5]), (17, [4])] i).getD []
  boxes i := (assoc [(0, []), (1, []), (2, []), (3, []), (4, []), (5, []), (6, []), (7, []), (8, []), (9, [7]), (10, []), (11, [7]), (12, [7]), (13, [7]), (14, []), (15, []), (16, []), (17, [])] i).getD []
  tk i := (assoc [(1000000, [2, 4]), (1000001, [1])] i).getD []
  n := 42
  labelR l := (assoc [] l).getD 0
  loops := assoc [(6, lex_Tokens_l6_s k)]
  labels := assoc []
  joins := assoc []
  xl i e := match e with
    | .nxt => assoc [] i
    | .ret => assoc [(6, ([2, 3], []))] i
    | .exit j => (assoc [(6, [(0, ([4, 5], []))])] i).bind fun l => assoc l j
    | .goto j => (assoc [] i).bind fun l => assoc l j
noncomputable def lex_Tokens_L : List Code := selI [6] (loopsOf lex_Tokens_code)
noncomputable def lex_Tokens_J : List Code := selI [] (joinsOf lex_Tokens_code)
noncomputable def lex_Tokens_S : List Code := scopesOf lex_Tokens_code
theorem lex_Tokens_l6_eq0 {ρ : Type} (k : Nat) (K : Ex → St UU → Option ρ) : ∀ (n : Nat) (v : ByteArray × (List S68) × Int × Int), iterK UX (fun s => s.at (lex_Tokens_cfg (ρ := ρ) k).live (lex_Tokens_cfg (ρ := ρ) k).boxes (some 6)) (exec UX (lex_Tokens_cfg k) (lex_Tokens_G k) (lex_Tokens_L.getD 0 .skip)) n ⟨[(0, .pv (.str v.1)), (4, .own (.l68 v.2.1)), (5, .pv (.int .i64 v.2.2.1)), (6, .pv (.int .i64 v.2.2.2))], []⟩ (nrmK UX (lex_Tokens_cfg k) 6 K) = lex_Tokens_l6 k (fun t2 t3 => K .ret ⟨[(2, .own (.l68 t2)), (3, .pv (.int .i64 t3))], []⟩) (fun l4 e5 => K (.exit 0) ⟨[(4, .own (.l68 l4)), (5, .pv (.int .i64 e5))], []⟩) n v.1 v.2.1 v.2.2.1 v.2.2.2 :=
  iter_rec (X := UX) (fun v => ⟨[(0, .pv (.str v.1)), (4, .own (.l68 v.2.1)), (5, .pv (.int .i64 v.2.2.1)), (6, .pv (.int .i64 v.2.2.2))], []⟩) (fun rec v => lex_Tokens_l6_b k (fun t2 t3 => K .ret ⟨[(2, .own (.l68 t2)), (3, .pv (.int .i64 t3))], []⟩) (fun l4 e5 => K (.exit 0) ⟨[(4, .own (.l68 l4)), (5, .pv (.int .i64 e5))], []⟩) (fun s0 l4 e5 at6 => rec (s0, l4, e5, at6)) v.1 v.2.1 v.2.2.1 v.2.2.2) (fun n v => lex_Tokens_l6 k (fun t2 t3 => K .ret ⟨[(2, .own (.l68 t2)), (3, .pv (.int .i64 t3))], []⟩) (fun l4 e5 => K (.exit 0) ⟨[(4, .own (.l68 l4)), (5, .pv (.int .i64 e5))], []⟩) n v.1 v.2.1 v.2.2.1 v.2.2.2) (fun n v => by kernel_rfl) (fun _ => rfl) (fun _ _ => rfl)
theorem lex_Tokens_l6_ok0 {ρ : Type} (k : Nat) : IterOK UX (lex_Tokens_cfg (ρ := ρ) k) (lex_Tokens_G k) (lex_Tokens_L.getD 0 .skip) 6 (lex_Tokens_l6_s k) := by
  intro s K r h
  obtain ⟨env, hp⟩ := s
  unfold lex_Tokens_l6_s at h
  replace h := popS_inv h; obtain ⟨v1, e2, rfl, h⟩ := h
  replace h := asS_inv h; obtain ⟨s0, rfl, h⟩ := h
  replace h := popS_inv h; obtain ⟨v3, e4, rfl, h⟩ := h
  replace h := asO_l68_inv h; obtain ⟨l4, rfl, h⟩ := h
  replace h := popS_inv h; obtain ⟨v5, e6, rfl, h⟩ := h
  replace h := asI_inv h; obtain ⟨e5, rfl, h⟩ := h
  replace h := popS_inv h; obtain ⟨v7, e8, rfl, h⟩ := h
  replace h := asI_inv h; obtain ⟨at6, rfl, h⟩ := h
  replace h := popN_inv h; obtain ⟨rfl, h⟩ := h
  replace h := popN_inv h; obtain ⟨rfl, h⟩ := h
  exact ⟨k, (lex_Tokens_l6_eq0 k K k (s0, l4, e5, at6)).trans h⟩
theorem lex_Tokens_cok {ρ : Type} (k : Nat) : COK (lex_Tokens_cfg (ρ := ρ) k) (lex_Tokens_G k) lex_Tokens_code :=
  cok_of (tl := [(6, lex_Tokens_l6_s k)]) (tj := []) (tb := []) rfl rfl rfl (all_nth 1 (by kernel_rfl) ⟨iter_case (by kernel_rfl) rfl (lex_Tokens_l6_ok0 k), trivial⟩) (nil_all (by kernel_rfl)) (fun p hp => by cases hp)
noncomputable def lex_Tokens_enc (r : (List S68) × Int) : AV UU := .otup (some (.l68 r.1)) [.int .i64 r.2]
noncomputable def lex_Tokens_dec (v : AV UU) (_ : List (List (AV UU))) : Option ((List S68) × Int) :=
asOT_l68 v fun r0 q1 =>
popA q1 fun p2 q3 =>
asI .i64 (.pv p2) fun r1 =>
popN q3 <|
some (r0, r1)
theorem lex_Tokens_dec_enc (v : AV UU) (b : List (List (AV UU))) (r : (List S68) × Int) (h : lex_Tokens_dec v b = some r) : v = lex_Tokens_enc r := by
  unfold lex_Tokens_dec at h
  replace h := asOT_l68_inv h; obtain ⟨r0, q1, rfl, h⟩ := h
  replace h := popA_inv h; obtain ⟨p2, q3, rfl, h⟩ := h
  replace h := asI_inv h; obtain ⟨r1, e, h⟩ := h; cases e
  replace h := popN_inv h; obtain ⟨rfl, h⟩ := h
  cases h
  rfl
theorem lex_Tokens_eq (k : Nat) (s0 : ByteArray) : bodyK UX (lex_Tokens_cfg k) (lex_Tokens_G k) Try.f37 [.pv (.str s0)] [] lex_Tokens_dec = lex_Tokens k s0 := by kernel_rfl
theorem lex_Tokens_con (k : Nat) (s0 : ByteArray) (r : (List S68) × Int) (h : lex_Tokens k s0 = some r) : Con (X := UX) Try.prog 37 [.pv (.str s0)] [] (lex_Tokens_enc r) [] :=
  con_of_body xok tok Try.func37 lex_Tokens_body (lex_Tokens_gok k) rfl (lex_Tokens_cok k) (of_decide_eq_true (by kernel_rfl)) lex_Tokens_dec_enc ((lex_Tokens_eq k s0).trans h)
noncomputable def lex_Tokens_an {ρ : Type} (k : Nat) : An UX ρ := fun args bx K =>
popA args fun v1 a2 =>
asS v1 fun s0 =>
popN a2 <|
popN bx <|
(lex_Tokens k s0).bind fun r => K (lex_Tokens_enc r) []
theorem lex_Tokens_ok {ρ : Type} (k : Nat) : AnsOK Try.prog 37 (lex_Tokens_an (ρ := ρ) k) := by
  intro args bx K r h
  unfold lex_Tokens_an at h
  replace h := popA_inv h; obtain ⟨v1, a2, rfl, h⟩ := h
  replace h := asS_inv h; obtain ⟨s0, rfl, h⟩ := h
  replace h := popN_inv h; obtain ⟨rfl, h⟩ := h
  replace h := popN_inv h; obtain ⟨rfl, h⟩ := h
  replace h := bind_inv h
  obtain ⟨x, hx, h⟩ := h
  exact ⟨there_of Try.func37 (by kernel_rfl) lex_Tokens_body, _, _, h, lex_Tokens_con k s0 x hx⟩

/-! cadastre/cadastreref19.Blank -/
noncomputable def cadastreref19_Blank_code : Code := match Try.f65.body with | some c => c | none => .skip
theorem cadastreref19_Blank_body : Try.f65.body = some cadastreref19_Blank_code := by kernel_rfl
noncomputable def cadastreref19_Blank_G {ρ : Type} (k : Nat) : Ans UX ρ := gnil
theorem cadastreref19_Blank_gok {ρ : Type} (k : Nat) : GOK Try.prog (cadastreref19_Blank_G (ρ := ρ) k) := gok_nil
noncomputable def cadastreref19_Blank_cfg {ρ : Type} (k : Nat) : Cfg UX ρ where
  live i := (assoc [(0, [0]), (1, [0])] i).getD []
  boxes i := (assoc [(0, []), (1, [])] i).getD []
  tk i := (assoc [] i).getD []
  n := 17
  labelR l := (assoc [] l).getD 0
  loops := assoc []
  labels := assoc []
  joins := assoc []
  xl i e := match e with
    | .nxt => assoc [] i
    | .ret => assoc [] i
    | .exit j => (assoc [] i).bind fun l => assoc l j
    | .goto j => (assoc [] i).bind fun l => assoc l j
noncomputable def cadastreref19_Blank_L : List Code := selI [] (loopsOf cadastreref19_Blank_code)
noncomputable def cadastreref19_Blank_J : List Code := selI [] (joinsOf cadastreref19_Blank_code)
noncomputable def cadastreref19_Blank_S : List Code := scopesOf cadastreref19_Blank_code
theorem cadastreref19_Blank_cok {ρ : Type} (k : Nat) : COK (cadastreref19_Blank_cfg (ρ := ρ) k) (cadastreref19_Blank_G k) cadastreref19_Blank_code :=
  cok_of (tl := []) (tj := []) (tb := []) rfl rfl rfl (nil_all (by kernel_rfl)) (nil_all (by kernel_rfl)) (fun p hp => by cases hp)
noncomputable def cadastreref19_Blank_enc (r : Bool) : AV UU := .pv (.bool r)
noncomputable def cadastreref19_Blank_dec (v : AV UU) (_ : List (List (AV UU))) : Option Bool :=
asB v fun r0 =>
some r0
theorem cadastreref19_Blank_dec_enc (v : AV UU) (b : List (List (AV UU))) (r : Bool) (h : cadastreref19_Blank_dec v b = some r) : v = cadastreref19_Blank_enc r := by
  unfold cadastreref19_Blank_dec at h
  replace h := asB_inv h; obtain ⟨r0, rfl, h⟩ := h
  cases h
  rfl
theorem cadastreref19_Blank_eq (k : Nat) (c0 : Int) : bodyK UX (cadastreref19_Blank_cfg k) (cadastreref19_Blank_G k) Try.f65 [.pv (.int .u8 c0)] [] cadastreref19_Blank_dec = cadastreref19_Blank k c0 := by kernel_rfl
theorem cadastreref19_Blank_con (k : Nat) (c0 : Int) (r : Bool) (h : cadastreref19_Blank k c0 = some r) : Con (X := UX) Try.prog 65 [.pv (.int .u8 c0)] [] (cadastreref19_Blank_enc r) [] :=
  con_of_body xok tok Try.func65 cadastreref19_Blank_body (cadastreref19_Blank_gok k) rfl (cadastreref19_Blank_cok k) (of_decide_eq_true (by kernel_rfl)) cadastreref19_Blank_dec_enc ((cadastreref19_Blank_eq k c0).trans h)
noncomputable def cadastreref19_Blank_an {ρ : Type} (k : Nat) : An UX ρ := fun args bx K =>
popA args fun v1 a2 =>
asI .u8 v1 fun c0 =>
popN a2 <|
popN bx <|
(cadastreref19_Blank k c0).bind fun r => K (cadastreref19_Blank_enc r) []
theorem cadastreref19_Blank_ok {ρ : Type} (k : Nat) : AnsOK Try.prog 65 (cadastreref19_Blank_an (ρ := ρ) k) := by
  intro args bx K r h
  unfold cadastreref19_Blank_an at h
  replace h := popA_inv h; obtain ⟨v1, a2, rfl, h⟩ := h
  replace h := asI_inv h; obtain ⟨c0, rfl, h⟩ := h
  replace h := popN_inv h; obtain ⟨rfl, h⟩ := h
  replace h := popN_inv h; obtain ⟨rfl, h⟩ := h
  replace h := bind_inv h
  obtain ⟨x, hx, h⟩ := h
  exact ⟨there_of Try.func65 (by kernel_rfl) cadastreref19_Blank_body, _, _, h, cadastreref19_Blank_con k c0 x hx⟩

/-! cadastre/cadastreref19.Digit -/
noncomputable def cadastreref19_Digit_code : Code := match Try.f93.body with | some c => c | none => .skip
theorem cadastreref19_Digit_body : Try.f93.body = some cadastreref19_Digit_code := by kernel_rfl
noncomputable def cadastreref19_Digit_G {ρ : Type} (k : Nat) : Ans UX ρ := gnil
theorem cadastreref19_Digit_gok {ρ : Type} (k : Nat) : GOK Try.prog (cadastreref19_Digit_G (ρ := ρ) k) := gok_nil
noncomputable def cadastreref19_Digit_cfg {ρ : Type} (k : Nat) : Cfg UX ρ where
  live i := (assoc [(0, [0]), (1, [0])] i).getD []
  boxes i := (assoc [(0, []), (1, [])] i).getD []
  tk i := (assoc [] i).getD []
  n := 9
  labelR l := (assoc [] l).getD 0
  loops := assoc []
  labels := assoc []
  joins := assoc []
  xl i e := match e with
    | .nxt => assoc [] i
    | .ret => assoc [] i
    | .exit j => (assoc [] i).bind fun l => assoc l j
    | .goto j => (assoc [] i).bind fun l => assoc l j
noncomputable def cadastreref19_Digit_L : List Code := selI [] (loopsOf cadastreref19_Digit_code)
noncomputable def cadastreref19_Digit_J : List Code := selI [] (joinsOf cadastreref19_Digit_code)
noncomputable def cadastreref19_Digit_S : List Code := scopesOf cadastreref19_Digit_code
theorem cadastreref19_Digit_cok {ρ : Type} (k : Nat) : COK (cadastreref19_Digit_cfg (ρ := ρ) k) (cadastreref19_Digit_G k) cadastreref19_Digit_code :=
  cok_of (tl := []) (tj := []) (tb := []) rfl rfl rfl (nil_all (by kernel_rfl)) (nil_all (by kernel_rfl)) (fun p hp => by cases hp)
noncomputable def cadastreref19_Digit_enc (r : Bool) : AV UU := .pv (.bool r)
noncomputable def cadastreref19_Digit_dec (v : AV UU) (_ : List (List (AV UU))) : Option Bool :=
asB v fun r0 =>
some r0
theorem cadastreref19_Digit_dec_enc (v : AV UU) (b : List (List (AV UU))) (r : Bool) (h : cadastreref19_Digit_dec v b = some r) : v = cadastreref19_Digit_enc r := by
  unfold cadastreref19_Digit_dec at h
  replace h := asB_inv h; obtain ⟨r0, rfl, h⟩ := h
  cases h
  rfl
theorem cadastreref19_Digit_eq (k : Nat) (c0 : Int) : bodyK UX (cadastreref19_Digit_cfg k) (cadastreref19_Digit_G k) Try.f93 [.pv (.int .u8 c0)] [] cadastreref19_Digit_dec = cadastreref19_Digit k c0 := by kernel_rfl
theorem cadastreref19_Digit_con (k : Nat) (c0 : Int) (r : Bool) (h : cadastreref19_Digit k c0 = some r) : Con (X := UX) Try.prog 93 [.pv (.int .u8 c0)] [] (cadastreref19_Digit_enc r) [] :=
  con_of_body xok tok Try.func93 cadastreref19_Digit_body (cadastreref19_Digit_gok k) rfl (cadastreref19_Digit_cok k) (of_decide_eq_true (by kernel_rfl)) cadastreref19_Digit_dec_enc ((cadastreref19_Digit_eq k c0).trans h)
noncomputable def cadastreref19_Digit_an {ρ : Type} (k : Nat) : An UX ρ := fun args bx K =>
popA args fun v1 a2 =>
asI .u8 v1 fun c0 =>
popN a2 <|
popN bx <|
(cadastreref19_Digit k c0).bind fun r => K (cadastreref19_Digit_enc r) []
theorem cadastreref19_Digit_ok {ρ : Type} (k : Nat) : AnsOK Try.prog 93 (cadastreref19_Digit_an (ρ := ρ) k) := by
  intro args bx K r h
  unfold cadastreref19_Digit_an at h
  replace h := popA_inv h; obtain ⟨v1, a2, rfl, h⟩ := h
  replace h := asI_inv h; obtain ⟨c0, rfl, h⟩ := h
  replace h := popN_inv h; obtain ⟨rfl, h⟩ := h
  replace h := popN_inv h; obtain ⟨rfl, h⟩ := h
  replace h := bind_inv h
  obtain ⟨x, hx, h⟩ := h
  exact ⟨there_of Try.func93 (by kernel_rfl) cadastreref19_Digit_body, _, _, h, cadastreref19_Digit_con k c0 x hx⟩

/-! cadastre/cadastreref19.hex -/
noncomputable def cadastreref19_hex_code : Code := match Try.f106.body with | some c => c | none => .skip
theorem cadastreref19_hex_body : Try.f106.body = some cadastreref19_hex_code := by kernel_rfl
noncomputable def cadastreref19_hex_G {ρ : Type} (k : Nat) : Ans UX ρ := gk 93 (cadastreref19_Digit_an k) (gnil)
theorem cadastreref19_hex_gok {ρ : Type} (k : Nat) : GOK Try.prog (cadastreref19_hex_G (ρ := ρ) k) := gok_cons (cadastreref19_Digit_ok k) (gok_nil)
noncomputable def cadastreref19_hex_j5_s {ρ : Type} (k : Nat) : Run UX ρ := fun s K =>
popS 0 s.env fun v1 e2 =>
asI .u8 v1 fun c0 =>
popN e2 <|
popN s.hp <|
cadastreref19_hex_j5 k (fun t2 => K .ret ⟨[(2, .pv (.int .i64 t2))], []⟩) (K .nxt ⟨[], []⟩) c0
noncomputable def cadastreref19_hex_cfg {ρ : Type} (k : Nat) : Cfg UX ρ where
  live i := (assoc [(0, [0]), (1, [0]), (2, [0]), (3, [0]), (4, [0]), (5, [0]), (6, [0]), (7, [])] i).getD []
  boxes i := (assoc [(0, []), (1, []), (2, []), (3, []), (4, []), (5, []), (6, []), (7, [])] i).getD []
  tk i := (assoc [] i).getD []
  n := 31
  labelR l := (assoc [] l).getD 0
  loops := assoc []
  labels := assoc []
  joins := assoc [(5, cadastreref19_hex_j5_s k)]
  xl i e := match e with
    | .nxt => assoc [(5, ([], []))] i
    | .ret => assoc [(5, ([2], []))] i
    | .exit j => (assoc [] i).bind fun l => assoc l j
    | .goto j => (assoc [] i).bind fun l => assoc l j
noncomputable def cadastreref19_hex_L : List Code := selI [] (loopsOf cadastreref19_hex_code)
noncomputable def cadastreref19_hex_J : List Code := selI [5] (joinsOf cadastreref19_hex_code)
noncomputable def cadastreref19_hex_S : List Code := scopesOf cadastreref19_hex_code
theorem cadastreref19_hex_j5_eq0 {ρ : Type} (k : Nat) (K : Ex → St UU → Option ρ) (c0 : Int) : exec UX (cadastreref19_hex_cfg k) (cadastreref19_hex_G k) (cadastreref19_hex_J.getD 0 .skip) ⟨[(0, .pv (.int .u8 c0))], []⟩ (nrmK UX (cadastreref19_hex_cfg k) 5 K) = cadastreref19_hex_j5 k (fun t2 => K .ret ⟨[(2, .pv (.int .i64 t2))], []⟩) (K .nxt ⟨[], []⟩) c0 := by kernel_rfl
theorem cadastreref19_hex_j5_ok0 {ρ : Type} (k : Nat) : JoinOK UX (cadastreref19_hex_cfg (ρ := ρ) k) (cadastreref19_hex_G k) (cadastreref19_hex_J.getD 0 .skip) 5 (cadastreref19_hex_j5_s k) := by
  intro s K r h
  obtain ⟨env, hp⟩ := s
  unfold cadastreref19_hex_j5_s at h
  replace h := popS_inv h; obtain ⟨v1, e2, rfl, h⟩ := h
  replace h := asI_inv h; obtain ⟨c0, rfl, h⟩ := h
  replace h := popN_inv h; obtain ⟨rfl, h⟩ := h
  replace h := popN_inv h; obtain ⟨rfl, h⟩ := h
  exact (cadastreref19_hex_j5_eq0 k K c0).trans h
theorem cadastreref19_hex_cok {ρ : Type} (k : Nat) : COK (cadastreref19_hex_cfg (ρ := ρ) k) (cadastreref19_hex_G k) cadastreref19_hex_code :=
  cok_of (tl := []) (tj := [(5, cadastreref19_hex_j5_s k)]) (tb := []) rfl rfl rfl (nil_all (by kernel_rfl)) (all_nth 1 (by kernel_rfl) ⟨join_case (by kernel_rfl) rfl (cadastreref19_hex_j5_ok0 k), trivial⟩) (fun p hp => by cases hp)
noncomputable def cadastreref19_hex_enc (r : Int) : AV UU := .pv (.int .i64 r)
noncomputable def cadastreref19_hex_dec (v : AV UU) (_ : List (List (AV UU))) : Option Int :=
asI .i64 v fun r0 =>
some r0
theorem cadastreref19_hex_dec_enc (v : AV UU) (b : List (List (AV UU))) (r : Int) (h : cadastreref19_hex_dec v b = some r) : v = cadastreref19_hex_enc r := by
  unfold cadastreref19_hex_dec at h
  replace h := asI_inv h; obtain ⟨r0, rfl, h⟩ := h
  cases h
  rfl
theorem cadastreref19_hex_eq (k : Nat) (c0 : Int) : bodyK UX (cadastreref19_hex_cfg k) (cadastreref19_hex_G k) Try.f106 [.pv (.int .u8 c0)] [] cadastreref19_hex_dec = cadastreref19_hex k c0 := by kernel_rfl
theorem cadastreref19_hex_con (k : Nat) (c0 : Int) (r : Int) (h : cadastreref19_hex k c0 = some r) : Con (X := UX) Try.prog 106 [.pv (.int .u8 c0)] [] (cadastreref19_hex_enc r) [] :=
  con_of_body xok tok Try.func106 cadastreref19_hex_body (cadastreref19_hex_gok k) rfl (cadastreref19_hex_cok k) (of_decide_eq_true (by kernel_rfl)) cadastreref19_hex_dec_enc ((cadastreref19_hex_eq k c0).trans h)
noncomputable def cadastreref19_hex_an {ρ : Type} (k : Nat) : An UX ρ := fun args bx K =>
popA args fun v1 a2 =>
asI .u8 v1 fun c0 =>
popN a2 <|
popN bx <|
(cadastreref19_hex k c0).bind fun r => K (cadastreref19_hex_enc r) []
theorem cadastreref19_hex_ok {ρ : Type} (k : Nat) : AnsOK Try.prog 106 (cadastreref19_hex_an (ρ := ρ) k) := by
  intro args bx K r h
  unfold cadastreref19_hex_an at h
  replace h := popA_inv h; obtain ⟨v1, a2, rfl, h⟩ := h
  replace h := asI_inv h; obtain ⟨c0, rfl, h⟩ := h
  replace h := popN_inv h; obtain ⟨rfl, h⟩ := h
  replace h := popN_inv h; obtain ⟨rfl, h⟩ := h
  replace h := bind_inv h
  obtain ⟨x, hx, h⟩ := h
  exact ⟨there_of Try.func106 (by kernel_rfl) cadastreref19_hex_body, _, _, h, cadastreref19_hex_con k c0 x hx⟩

/-! cadastre/cadastreref19.blob -/
noncomputable def cadastreref19_blob_code : Code := match Try.f91.body with | some c => c | none => .skip
theorem cadastreref19_blob_body : Try.f91.body = some cadastreref19_blob_code := by kernel_rfl
noncomputable def cadastreref19_blob_G {ρ : Type} (k : Nat) : Ans UX ρ := gk 106 (cadastreref19_hex_an k) (gnil)
theorem cadastreref19_blob_gok {ρ : Type} (k : Nat) : GOK Try.prog (cadastreref19_blob_G (ρ := ρ) k) := gok_cons (cadastreref19_hex_ok k) (gok_nil)
noncomputable def cadastreref19_blob_l5_s {ρ : Type} (k : Nat) : Run UX ρ := fun s K =>
popS 0 s.env fun v1 e2 =>
asS v1 fun s0 =>
popS 4 e2 fun v3 e4 =>
asO_li_u8 v3 fun b4 =>
popS 5 e4 fun v5 e6 =>
asI .i64 v5 fun i5 =>
popN e6 <|
popN s.hp <|
cadastreref19_blob_l5 k (fun t2 t3 => K .ret ⟨[(2, .pv (.str t2)), (3, .pv (.bool t3))], []⟩) (fun b4 => K (.exit 0) ⟨[(4, .own (.li_u8 b4))], []⟩) k s0 b4 i5
noncomputable def cadastreref19_blob_cfg {ρ : Type} (k : Nat) : Cfg UX ρ where
  live i := (assoc [(0, [0]), (1, [0]), (2, []), (3, [0]), (4, [0, 4]), (5, [0, 4, 5]), (6, [0, 4, 5]), (7, [0, 4, 5]), (8, [0, 4, 5, 6]), (9, [0, 4, 5, 6, 7]), (10, []), (11, [0, 4, 5, 6, 7]), (12, [4])] i).getD []
  boxes i := (assoc [(0, []), (1, []), (2, []), (3, []), (4, []), (5, []), (6, []), (7, []), (8, []), (9, []), (10, []), (11, []), (12, [])] i).getD []
  tk i := (assoc [(1000000, [4])] i).getD []
  n := 43
  labelR l := (assoc [] l).getD 0
  loops := assoc [(5, cadastreref19_blob_l5_s k)]
  labels := assoc []
  joins := assoc []
  xl i e := match e with
    | .nxt => assoc [] i
    | .ret => assoc [(5, ([2, 3], []))] i
    | .exit j => (assoc [(5, [(0, ([4], []))])] i).bind fun l => assoc l j
    | .goto j => (assoc [] i).bind fun l => assoc l j
noncomputable def cadastreref19_blob_L : List Code := selI [5] (loopsOf cadastreref19_blob_code)
noncomputable def cadastreref19_blob_J : List Code := selI [] (joinsOf cadastreref19_blob_code)
noncomputable def cadastreref19_blob_S : List Code := scopesOf cadastreref19_blob_code
theorem cadastreref19_blob_l5_eq0 {ρ : Type} (k : Nat) (K : Ex → St UU → Option ρ) : ∀ (n : Nat) (v : ByteArray × (List Int) × Int), iterK UX (fun s => s.at (cadastreref19_blob_cfg (ρ := ρ) k).live (cadastreref19_blob_cfg (ρ := ρ) k).boxes (some 5)) (exec UX (cadastreref19_blob_cfg k) (cadastreref19_blob_G k) (cadastreref19_blob_L.getD 0 .skip)) n ⟨[(0, .pv (.str v.1)), (4, .own (.li_u8 v.2.1)), (5, .pv (.int .i64 v.2.2))], []⟩ (nrmK UX (cadastreref19_blob_cfg k) 5 K) = cadastreref19_blob_l5 k (fun t2 t3 => K .ret ⟨[(2, .pv (.str t2)), (3, .pv (.bool t3))], []⟩) (fun b4 => K (.exit 0) ⟨[(4, .own (.li_u8 b4))], []⟩) n v.1 v.2.1 v.2.2 :=
  iter_rec (X := UX) (fun v => ⟨[(0, .pv (.str v.1)), (4, .own (.li_u8 v.2.1)), (5, .pv (.int .i64 v.2.2))], []⟩) (fun rec v => cadastreref19_blob_l5_b k (fun t2 t3 => K .ret ⟨[(2, .pv (.str t2)), (3, .pv (.bool t3))], []⟩) (fun b4 => K (.exit 0) ⟨[(4, .own (.li_u8 b4))], []⟩) (fun s0 b4 i5 => rec (s0, b4, i5)) v.1 v.2.1 v.2.2) (fun n v => cadastreref19_blob_l5 k (fun t2 t3 => K .ret ⟨[(2, .pv (.str t2)), (3, .pv (.bool t3))], []⟩) (fun b4 => K (.exit 0) ⟨[(4, .own (.li_u8 b4))], []⟩) n v.1 v.2.1 v.2.2) (fun n v => by kernel_rfl) (fun _ => rfl) (fun _ _ => rfl)
theorem cadastreref19_blob_l5_ok0 {ρ : Type} (k : Nat) : IterOK UX (cadastreref19_blob_cfg (ρ := ρ) k) (cadastreref19_blob_G k) (cadastreref19_blob_L.getD 0 .skip) 5 (cadastreref19_blob_l5_s k) := by
  intro s K r h
  obtain ⟨env, hp⟩ := s
  unfold cadastreref19_blob_l5_s at h
  replace h := popS_inv h; obtain ⟨v1, e2, rfl, h⟩ := h
  replace h := asS_inv h; obtain ⟨s0, rfl, h⟩ := h
  replace h := popS_inv h; obtain ⟨v3, e4, rfl, h⟩ := h
  replace h := asO_li_u8_inv h; obtain ⟨b4, rfl, h⟩ := h
  replace h := popS_inv h; obtain ⟨v5, e6, rfl, h⟩ := h
  replace h := asI_inv h; obtain ⟨i5, rfl, h⟩ := h
  replace h := popN_inv h; obtain ⟨rfl, h⟩ := h
  replace h := popN_inv h; obtain ⟨rfl, h⟩ := h
  exact ⟨k, (cadastreref19_blob_l5_eq0 k K k (s0, b4, i5)).trans h⟩
theorem cadastreref19_blob_cok {ρ : Type} (k : Nat) : COK (cadastreref19_blob_cfg (ρ := ρ) k) (cadastreref19_blob_G k) cadastreref19_blob_code :=
  cok_of (tl := [(5, cadastreref19_blob_l5_s k)]) (tj := []) (tb := []) rfl rfl rfl (all_nth 1 (by kernel_rfl) ⟨iter_case (by kernel_rfl) rfl (cadastreref19_blob_l5_ok0 k), trivial⟩) (nil_all (by kernel_rfl)) (fun p hp => by cases hp)
noncomputable def cadastreref19_blob_enc (r : ByteArray × Bool) : AV UU := .pv (.tup [.str r.1, .bool r.2])
noncomputable def cadastreref19_blob_dec (v : AV UU) (_ : List (List (AV UU))) : Option (ByteArray × Bool) :=
asT v fun q1 =>
popA q1 fun p2 q3 =>
asS (.pv p2) fun r0 =>
popA q3 fun p4 q5 =>
asB (.pv p4) fun r1 =>
popN q5 <|
some (r0, r1)
theorem cadastreref19_blob_dec_enc (v : AV UU) (b : List (List (AV UU))) (r : ByteArray × Bool) (h : cadastreref19_blob_dec v b = some r) : v = cadastreref19_blob_enc r := by
  unfold cadastreref19_blob_dec at h
  replace h := asT_inv h; obtain ⟨q1, rfl, h⟩ := h
  replace h := popA_inv h; obtain ⟨p2, q3, rfl, h⟩ := h
  replace h := asS_inv h; obtain ⟨r0, e, h⟩ := h; cases e
  replace h := popA_inv h; obtain ⟨p4, q5, rfl, h⟩ := h
  replace h := asB_inv h; obtain ⟨r1, e, h⟩ := h; cases e
  replace h := popN_inv h; obtain ⟨rfl, h⟩ := h
  cases h
  rfl
theorem cadastreref19_blob_eq (k : Nat) (s0 : ByteArray) : bodyK UX (cadastreref19_blob_cfg k) (cadastreref19_blob_G k) Try.f91 [.pv (.str s0)] [] cadastreref19_blob_dec = cadastreref19_blob k s0 := by kernel_rfl
theorem cadastreref19_blob_con (k : Nat) (s0 : ByteArray) (r : ByteArray × Bool) (h : cadastreref19_blob k s0 = some r) : Con (X := UX) Try.prog 91 [.pv (.str s0)] [] (cadastreref19_blob_enc r) [] :=
  con_of_body xok tok Try.func91 cadastreref19_blob_body (cadastreref19_blob_gok k) rfl (cadastreref19_blob_cok k) (of_decide_eq_true (by kernel_rfl)) cadastreref19_blob_dec_enc ((cadastreref19_blob_eq k s0).trans h)
noncomputable def cadastreref19_blob_an {ρ : Type} (k : Nat) : An UX ρ := fun args bx K =>
popA args fun v1 a2 =>
asS v1 fun s0 =>
popN a2 <|
popN bx <|
(cadastreref19_blob k s0).bind fun r => K (cadastreref19_blob_enc r) []
theorem cadastreref19_blob_ok {ρ : Type} (k : Nat) : AnsOK Try.prog 91 (cadastreref19_blob_an (ρ := ρ) k) := by
  intro args bx K r h
  unfold cadastreref19_blob_an at h
  replace h := popA_inv h; obtain ⟨v1, a2, rfl, h⟩ := h
  replace h := asS_inv h; obtain ⟨s0, rfl, h⟩ := h
  replace h := popN_inv h; obtain ⟨rfl, h⟩ := h
  replace h := popN_inv h; obtain ⟨rfl, h⟩ := h
  replace h := bind_inv h
  obtain ⟨x, hx, h⟩ := h
  exact ⟨there_of Try.func91 (by kernel_rfl) cadastreref19_blob_body, _, _, h, cadastreref19_blob_con k s0 x hx⟩

/-! cadastre/cadastreref19.Letter -/
noncomputable def cadastreref19_Letter_code : Code := match Try.f92.body with | some c => c | none => .skip
theorem cadastreref19_Letter_body : Try.f92.body = some cadastreref19_Letter_code := by kernel_rfl
noncomputable def cadastreref19_Letter_G {ρ : Type} (k : Nat) : Ans UX ρ := gnil
theorem cadastreref19_Letter_gok {ρ : Type} (k : Nat) : GOK Try.prog (cadastreref19_Letter_G (ρ := ρ) k) := gok_nil
noncomputable def cadastreref19_Letter_cfg {ρ : Type} (k : Nat) : Cfg UX ρ where
  live i := (assoc [(0, [0]), (1, [0])] i).getD []
  boxes i := (assoc [(0, []), (1, [])] i).getD []
  tk i := (assoc [] i).getD []
  n := 21
  labelR l := (assoc [] l).getD 0
  loops := assoc []
  labels := assoc []
  joins := assoc []
  xl i e := match e with
    | .nxt => assoc [] i
    | .ret => assoc [] i
    | .exit j => (assoc [] i).bind fun l => assoc l j
    | .goto j => (assoc [] i).bind fun l => assoc l j
noncomputable def cadastreref19_Letter_L : List Code := selI [] (loopsOf cadastreref19_Letter_code)
noncomputable def cadastreref19_Letter_J : List Code := selI [] (joinsOf cadastreref19_Letter_code)
noncomputable def cadastreref19_Letter_S : List Code := scopesOf cadastreref19_Letter_code
theorem cadastreref19_Letter_cok {ρ : Type} (k : Nat) : COK (cadastreref19_Letter_cfg (ρ := ρ) k) (cadastreref19_Letter_G k) cadastreref19_Letter_code :=
  cok_of (tl := []) (tj := []) (tb := []) rfl rfl rfl (nil_all (by kernel_rfl)) (nil_all (by kernel_rfl)) (fun p hp => by cases hp)
noncomputable def cadastreref19_Letter_enc (r : Bool) : AV UU := .pv (.bool r)
noncomputable def cadastreref19_Letter_dec (v : AV UU) (_ : List (List (AV UU))) : Option Bool :=
asB v fun r0 =>
some r0
theorem cadastreref19_Letter_dec_enc (v : AV UU) (b : List (List (AV UU))) (r : Bool) (h : cadastreref19_Letter_dec v b = some r) : v = cadastreref19_Letter_enc r := by
  unfold cadastreref19_Letter_dec at h
  replace h := asB_inv h; obtain ⟨r0, rfl, h⟩ := h
  cases h
  rfl
theorem cadastreref19_Letter_eq (k : Nat) (c0 : Int) : bodyK UX (cadastreref19_Letter_cfg k) (cadastreref19_Letter_G k) Try.f92 [.pv (.int .u8 c0)] [] cadastreref19_Letter_dec = cadastreref19_Letter k c0 := by kernel_rfl
theorem cadastreref19_Letter_con (k : Nat) (c0 : Int) (r : Bool) (h : cadastreref19_Letter k c0 = some r) : Con (X := UX) Try.prog 92 [.pv (.int .u8 c0)] [] (cadastreref19_Letter_enc r) [] :=
  con_of_body xok tok Try.func92 cadastreref19_Letter_body (cadastreref19_Letter_gok k) rfl (cadastreref19_Letter_cok k) (of_decide_eq_true (by kernel_rfl)) cadastreref19_Letter_dec_enc ((cadastreref19_Letter_eq k c0).trans h)
noncomputable def cadastreref19_Letter_an {ρ : Type} (k : Nat) : An UX ρ := fun args bx K =>
popA args fun v1 a2 =>
asI .u8 v1 fun c0 =>
popN a2 <|
popN bx <|
(cadastreref19_Letter k c0).bind fun r => K (cadastreref19_Letter_enc r) []
theorem cadastreref19_Letter_ok {ρ : Type} (k : Nat) : AnsOK Try.prog 92 (cadastreref19_Letter_an (ρ := ρ) k) := by
  intro args bx K r h
  unfold cadastreref19_Letter_an at h
  replace h := popA_inv h; obtain ⟨v1, a2, rfl, h⟩ := h
  replace h := asI_inv h; obtain ⟨c0, rfl, h⟩ := h
  replace h := popN_inv h; obtain ⟨rfl, h⟩ := h
  replace h := popN_inv h; obtain ⟨rfl, h⟩ := h
  replace h := bind_inv h
  obtain ⟨x, hx, h⟩ := h
  exact ⟨there_of Try.func92 (by kernel_rfl) cadastreref19_Letter_body, _, _, h, cadastreref19_Letter_con k c0 x hx⟩

/-! cadastre/cadastreref19.lower -/
noncomputable def cadastreref19_lower_code : Code := match Try.f94.body with | some c => c | none => .skip
theorem cadastreref19_lower_body : Try.f94.body = some cadastreref19_lower_code := by kernel_rfl
noncomputable def cadastreref19_lower_G {ρ : Type} (k : Nat) : Ans UX ρ := gnil
theorem cadastreref19_lower_gok {ρ : Type} (k : Nat) : GOK Try.prog (cadastreref19_lower_G (ρ := ρ) k) := gok_nil
noncomputable def cadastreref19_lower_l3_s {ρ : Type} (k : Nat) : Run UX ρ := fun s K =>
popS 3 s.env fun v1 e2 =>
asO_li_u8 v1 fun b3 =>
popS 4 e2 fun v3 e4 =>
asI .i64 v3 fun i4 =>
popN e4 <|
popN s.hp <|
cadastreref19_lower_l3 k (fun b3 => K (.exit 0) ⟨[(3, .own (.li_u8 b3))], []⟩) k b3 i4
noncomputable def cadastreref19_lower_cfg {ρ : Type} (k : Nat) : Cfg UX ρ where
  live i := (assoc [(0, [0]), (1, [0]), (2, [3]), (3, [3, 4]), (4, [3, 4]), (5, [3, 4]), (6, [3, 4]), (7, [3])] i).getD []
  boxes i := (assoc [(0, []), (1, []), (2, []), (3, []), (4, []), (5, []), (6, []), (7, [])] i).getD []
  tk i := (assoc [] i).getD []
  n := 35
  labelR l := (assoc [] l).getD 0
  loops := assoc [(3, cadastreref19_lower_l3_s k)]
  labels := assoc []
  joins := assoc []
  xl i e := match e with
    | .nxt => assoc [] i
    | .ret => assoc [] i
    | .exit j => (assoc [(3, [(0, ([3], []))])] i).bind fun l => assoc l j
    | .goto j => (assoc [] i).bind fun l => assoc l j
noncomputable def cadastreref19_lower_L : List Code := selI [3] (loopsOf cadastreref19_lower_code)
noncomputable def cadastreref19_lower_J : List Code := selI [] (joinsOf cadastreref19_lower_code)
noncomputable def cadastreref19_lower_S : List Code := scopesOf cadastreref19_lower_code
theorem cadastreref19_lower_l3_eq0 {ρ : Type} (k : Nat) (K : Ex → St UU → Option ρ) : ∀ (n : Nat) (v : (List Int) × Int), iterK UX (fun s => s.at (cadastreref19_lower_cfg (ρ := ρ) k).live (cadastreref19_lower_cfg (ρ := ρ) k).boxes (some 3)) (exec UX (cadastreref19_lower_cfg k) (cadastreref19_lower_G k) (cadastreref19_lower_L.getD 0 .skip)) n ⟨[(3, .own (.li_u8 v.1)), (4, .pv (.int .i64 v.2))], []⟩ (nrmK UX (cadastreref19_lower_cfg k) 3 K) = cadastreref19_lower_l3 k (fun b3 => K (.exit 0) ⟨[(3, .own (.li_u8 b3))], []⟩) n v.1 v.2 :=
  iter_rec (X := UX) (fun v => ⟨[(3, .own (.li_u8 v.1)), (4, .pv (.int .i64 v.2))], []⟩) (fun rec v => cadastreref19_lower_l3_b k (fun b3 => K (.exit 0) ⟨[(3, .own (.li_u8 b3))], []⟩) (fun b3 i4 => rec (b3, i4)) v.1 v.2) (fun n v => cadastreref19_lower_l3 k (fun b3 => K (.exit 0) ⟨[(3, .own (.li_u8 b3))], []⟩) n v.1 v.2) (fun n v => by kernel_rfl) (fun _ => rfl) (fun _ _ => rfl)
theorem cadastreref19_lower_l3_ok0 {ρ : Type} (k : Nat) : IterOK UX (cadastreref19_lower_cfg (ρ := ρ) k) (cadastreref19_lower_G k) (cadastreref19_lower_L.getD 0 .skip) 3 (cadastreref19_lower_l3_s k) := by
  intro s K r h
  obtain ⟨env, hp⟩ := s
  unfold cadastreref19_lower_l3_s at h
  replace h := popS_inv h; obtain ⟨v1, e2, rfl, h⟩ := h
  replace h := asO_li_u8_inv h; obtain ⟨b3, rfl, h⟩ := h
  replace h := popS_inv h; obtain ⟨v3, e4, rfl, h⟩ := h
  replace h := asI_inv h; obtain ⟨i4, rfl, h⟩ := h
  replace h := popN_inv h; obtain ⟨rfl, h⟩ := h
  replace h := popN_inv h; obtain ⟨rfl, h⟩ := h
  exact ⟨k, (cadastreref19_lower_l3_eq0 k K k (b3, i4)).trans h⟩
theorem cadastreref19_lower_cok {ρ : Type} (k : Nat) : COK (cadastreref19_lower_cfg (ρ := ρ) k) (cadastreref19_lower_G k) cadastreref19_lower_code :=
  cok_of (tl := [(3, cadastreref19_lower_l3_s k)]) (tj := []) (tb := []) rfl rfl rfl (all_nth 1 (by kernel_rfl) ⟨iter_case (by kernel_rfl) rfl (cadastreref19_lower_l3_ok0 k), trivial⟩) (nil_all (by kernel_rfl)) (fun p hp => by cases hp)
noncomputable def cadastreref19_lower_enc (r : ByteArray) : AV UU := .pv (.str r)
noncomputable def cadastreref19_lower_dec (v : AV UU) (_ : List (List (AV UU))) : Option ByteArray :=
asS v fun r0 =>
some r0
theorem cadastreref19_lower_dec_enc (v : AV UU) (b : List (List (AV UU))) (r : ByteArray) (h : cadastreref19_lower_dec v b = some r) : v = cadastreref19_lower_enc r := by
  unfold cadastreref19_lower_dec at h
  replace h := asS_inv h; obtain ⟨r0, rfl, h⟩ := h
  cases h
  rfl
theorem cadastreref19_lower_eq (k : Nat) (s0 : ByteArray) : bodyK UX (cadastreref19_lower_cfg k) (cadastreref19_lower_G k) Try.f94 [.pv (.str s0)] [] cadastreref19_lower_dec = cadastreref19_lower k s0 := by kernel_rfl
theorem cadastreref19_lower_con (k : Nat) (s0 : ByteArray) (r : ByteArray) (h : cadastreref19_lower k s0 = some r) : Con (X := UX) Try.prog 94 [.pv (.str s0)] [] (cadastreref19_lower_enc r) [] :=
  con_of_body xok tok Try.func94 cadastreref19_lower_body (cadastreref19_lower_gok k) rfl (cadastreref19_lower_cok k) (of_decide_eq_true (by kernel_rfl)) cadastreref19_lower_dec_enc ((cadastreref19_lower_eq k s0).trans h)
noncomputable def cadastreref19_lower_an {ρ : Type} (k : Nat) : An UX ρ := fun args bx K =>
popA args fun v1 a2 =>
asS v1 fun s0 =>
popN a2 <|
popN bx <|
(cadastreref19_lower k s0).bind fun r => K (cadastreref19_lower_enc r) []
theorem cadastreref19_lower_ok {ρ : Type} (k : Nat) : AnsOK Try.prog 94 (cadastreref19_lower_an (ρ := ρ) k) := by
  intro args bx K r h
  unfold cadastreref19_lower_an at h
  replace h := popA_inv h; obtain ⟨v1, a2, rfl, h⟩ := h
  replace h := asS_inv h; obtain ⟨s0, rfl, h⟩ := h
  replace h := popN_inv h; obtain ⟨rfl, h⟩ := h
  replace h := popN_inv h; obtain ⟨rfl, h⟩ := h
  replace h := bind_inv h
  obtain ⟨x, hx, h⟩ := h
  exact ⟨there_of Try.func94 (by kernel_rfl) cadastreref19_lower_body, _, _, h, cadastreref19_lower_con k s0 x hx⟩

/-! cadastre/cadastreref2.Int -/
noncomputable def cadastreref2_Int_code : Code := match Try.f99.body with | some c => c | none => .skip
theorem cadastreref2_Int_body : Try.f99.body = some cadastreref2_Int_code := by kernel_rfl
noncomputable def cadastreref2_Int_G {ρ : Type} (k : Nat) : Ans UX ρ := gnil
theorem cadastreref2_Int_gok {ρ : Type} (k : Nat) : GOK Try.prog (cadastreref2_Int_G (ρ := ρ) k) := gok_nil
noncomputable def cadastreref2_Int_cfg {ρ : Type} (k : Nat) : Cfg UX ρ where
  live i := (assoc [(0, [0]), (1, [0, 2])] i).getD []
  boxes i := (assoc [(0, []), (1, [2])] i).getD []
  tk i := (assoc [] i).getD []
  n := 5
  labelR l := (assoc [] l).getD 0
  loops := assoc []
  labels := assoc []
  joins := assoc []
  xl i e := match e with
    | .nxt => assoc [] i
    | .ret => assoc [] i
    | .exit j => (assoc [] i).bind fun l => assoc l j
    | .goto j => (assoc [] i).bind fun l => assoc l j
noncomputable def cadastreref2_Int_L : List Code := selI [] (loopsOf cadastreref2_Int_code)
noncomputable def cadastreref2_Int_J : List Code := selI [] (joinsOf cadastreref2_Int_code)
noncomputable def cadastreref2_Int_S : List Code := scopesOf cadastreref2_Int_code
theorem cadastreref2_Int_cok {ρ : Type} (k : Nat) : COK (cadastreref2_Int_cfg (ρ := ρ) k) (cadastreref2_Int_G k) cadastreref2_Int_code :=
  cok_of (tl := []) (tj := []) (tb := []) rfl rfl rfl (nil_all (by kernel_rfl)) (nil_all (by kernel_rfl)) (fun p hp => by cases hp)
noncomputable def cadastreref2_Int_enc (r : S44) : AV UU := .pv (.typ (.s44 r))
noncomputable def cadastreref2_Int_dec (v : AV UU) (_ : List (List (AV UU))) : Option S44 :=
as_s44 v fun r0 =>
some r0
theorem cadastreref2_Int_dec_enc (v : AV UU) (b : List (List (AV UU))) (r : S44) (h : cadastreref2_Int_dec v b = some r) : v = cadastreref2_Int_enc r := by
  unfold cadastreref2_Int_dec at h
  replace h := as_s44_inv h; obtain ⟨r0, rfl, h⟩ := h
  cases h
  rfl
theorem cadastreref2_Int_eq (k : Nat) (n0 : Int) : bodyK UX (cadastreref2_Int_cfg k) (cadastreref2_Int_G k) Try.f99 [.pv (.int .i64 n0)] [] cadastreref2_Int_dec = cadastreref2_Int k n0 := by kernel_rfl
theorem cadastreref2_Int_con (k : Nat) (n0 : Int) (r : S44) (h : cadastreref2_Int k n0 = some r) : Con (X := UX) Try.prog 99 [.pv (.int .i64 n0)] [] (cadastreref2_Int_enc r) [] :=
  con_of_body xok tok Try.func99 cadastreref2_Int_body (cadastreref2_Int_gok k) rfl (cadastreref2_Int_cok k) (of_decide_eq_true (by kernel_rfl)) cadastreref2_Int_dec_enc ((cadastreref2_Int_eq k n0).trans h)
noncomputable def cadastreref2_Int_an {ρ : Type} (k : Nat) : An UX ρ := fun args bx K =>
popA args fun v1 a2 =>
asI .i64 v1 fun n0 =>
popN a2 <|
popN bx <|
(cadastreref2_Int k n0).bind fun r => K (cadastreref2_Int_enc r) []
theorem cadastreref2_Int_ok {ρ : Type} (k : Nat) : AnsOK Try.prog 99 (cadastreref2_Int_an (ρ := ρ) k) := by
  intro args bx K r h
  unfold cadastreref2_Int_an at h
  replace h := popA_inv h; obtain ⟨v1, a2, rfl, h⟩ := h
  replace h := asI_inv h; obtain ⟨n0, rfl, h⟩ := h
  replace h := popN_inv h; obtain ⟨rfl, h⟩ := h
  replace h := popN_inv h; obtain ⟨rfl, h⟩ := h
  replace h := bind_inv h
  obtain ⟨x, hx, h⟩ := h
  exact ⟨there_of Try.func99 (by kernel_rfl) cadastreref2_Int_body, _, _, h, cadastreref2_Int_con k n0 x hx⟩

/-! cadastre/cadastreref4.mul -/
noncomputable def cadastreref4_mul_code : Code := match Try.f109.body with | some c => c | none => .skip
theorem cadastreref4_mul_body : Try.f109.body = some cadastreref4_mul_code := by kernel_rfl
noncomputable def cadastreref4_mul_G {ρ : Type} (k : Nat) : Ans UX ρ := gnil
theorem cadastreref4_mul_gok {ρ : Type} (k : Nat) : GOK Try.prog (cadastreref4_mul_G (ρ := ρ) k) := gok_nil
noncomputable def cadastreref4_mul_j5_s {ρ : Type} (k : Nat) : Run UX ρ := fun s K =>
popS 0 s.env fun v1 e2 =>
asI .i64 v1 fun a0 =>
popS 1 e2 fun v3 e4 =>
asI .i64 v3 fun b1 =>
popN e4 <|
popN s.hp <|
cadastreref4_mul_j5 k (fun t4 t5 => K .ret ⟨[(4, .pv (.int .i64 t4)), (5, .pv (.bool t5))], []⟩) a0 b1
noncomputable def cadastreref4_mul_j3_s {ρ : Type} (k : Nat) : Run UX ρ := fun s K =>
popS 0 s.env fun v1 e2 =>
asI .i64 v1 fun a0 =>
popS 1 e2 fun v3 e4 =>
asI .i64 v3 fun b1 =>
popN e4 <|
popN s.hp <|
cadastreref4_mul_j3 k (fun t4 t5 => K .ret ⟨[(4, .pv (.int .i64 t4)), (5, .pv (.bool t5))], []⟩) a0 b1
noncomputable def cadastreref4_mul_cfg {ρ : Type} (k : Nat) : Cfg UX ρ where
  live i := (assoc [(0, [0, 1]), (1, [0, 1]), (2, []), (3, [0, 1]), (4, []), (5, [0, 1]), (6, [0, 1, 6])] i).getD []
  boxes i := (assoc [(0, []), (1, []), (2, []), (3, []), (4, []), (5, []), (6, [])] i).getD []
  tk i := (assoc [] i).getD []
  n := 36
  labelR l := (assoc [] l).getD 0
  loops := assoc []
  labels := assoc []
  joins := assoc [(5, cadastreref4_mul_j5_s k), (3, cadastreref4_mul_j3_s k)]
  xl i e := match e with
    | .nxt => assoc [] i
    | .ret => assoc [(5, ([4, 5], [])), (3, ([4, 5], []))] i
    | .exit j => (assoc [] i).bind fun l => assoc l j
    | .goto j => (assoc [] i).bind fun l => assoc l j
noncomputable def cadastreref4_mul_L : List Code := selI [] (loopsOf cadastreref4_mul_code)
noncomputable def cadastreref4_mul_J : List Code := selI [5, 3] (joinsOf cadastreref4_mul_code)
noncomputable def cadastreref4_mul_S : List Code := scopesOf cadastreref4_mul_code
theorem cadastreref4_mul_j3_eq0 {ρ : Type} (k : Nat) (K : Ex → St UU → Option ρ) (a0 : Int) (b1 : Int) : exec UX (cadastreref4_mul_cfg k) (cadastreref4_mul_G k) (cadastreref4_mul_J.getD 0 .skip) ⟨[(0, .pv (.int .i64 a0)), (1, .pv (.int .i64 b1))], []⟩ (nrmK UX (cadastreref4_mul_cfg k) 3 K) = cadastreref4_mul_j3 k (fun t4 t5 => K .ret ⟨[(4, .pv (.int .i64 t4)), (5, .pv (.bool t5))], []⟩) a0 b1 := by kernel_rfl
theorem cadastreref4_mul_j3_ok0 {ρ : Type} (k : Nat) : JoinOK UX (cadastreref4_mul_cfg (ρ := ρ) k) (cadastreref4_mul_G k) (cadastreref4_mul_J.getD 0 .skip) 3 (cadastreref4_mul_j3_s k) := by
  intro s K r h
  obtain ⟨env, hp⟩ := s
  unfold cadastreref4_mul_j3_s at h
  replace h := popS_inv h; obtain ⟨v1, e2, rfl, h⟩ := h
  replace h := asI_inv h; obtain ⟨a0, rfl, h⟩ := h
  replace h := popS_inv h; obtain ⟨v3, e4, rfl, h⟩ := h
  replace h := asI_inv h; obtain ⟨b1, rfl, h⟩ := h
  replace h := popN_inv h; obtain ⟨rfl, h⟩ := h
  replace h := popN_inv h; obtain ⟨rfl, h⟩ := h
  exact (cadastreref4_mul_j3_eq0 k K a0 b1).trans h
theorem cadastreref4_mul_j5_eq1 {ρ : Type} (k : Nat) (K : Ex → St UU → Option ρ) (a0 : Int) (b1 : Int) : exec UX (cadastreref4_mul_cfg k) (cadastreref4_mul_G k) (cadastreref4_mul_J.getD 1 .skip) ⟨[(0, .pv (.int .i64 a0)), (1, .pv (.int .i64 b1))], []⟩ (nrmK UX (cadastreref4_mul_cfg k) 5 K) = cadastreref4_mul_j5 k (fun t4 t5 => K .ret ⟨[(4, .pv (.int .i64 t4)), (5, .pv (.bool t5))], []⟩) a0 b1 := by kernel_rfl
theorem cadastreref4_mul_j5_ok1 {ρ : Type} (k : Nat) : JoinOK UX (cadastreref4_mul_cfg (ρ := ρ) k) (cadastreref4_mul_G k) (cadastreref4_mul_J.getD 1 .skip) 5 (cadastreref4_mul_j5_s k) := by
  intro s K r h
  obtain ⟨env, hp⟩ := s
  unfold cadastreref4_mul_j5_s at h
  replace h := popS_inv h; obtain ⟨v1, e2, rfl, h⟩ := h
  replace h := asI_inv h; obtain ⟨a0, rfl, h⟩ := h
  replace h := popS_inv h; obtain ⟨v3, e4, rfl, h⟩ := h
  replace h := asI_inv h; obtain ⟨b1, rfl, h⟩ := h
  replace h := popN_inv h; obtain ⟨rfl, h⟩ := h
  replace h := popN_inv h; obtain ⟨rfl, h⟩ := h
  exact (cadastreref4_mul_j5_eq1 k K a0 b1).trans h
theorem cadastreref4_mul_cok {ρ : Type} (k : Nat) : COK (cadastreref4_mul_cfg (ρ := ρ) k) (cadastreref4_mul_G k) cadastreref4_mul_code :=
  cok_of (tl := []) (tj := [(5, cadastreref4_mul_j5_s k), (3, cadastreref4_mul_j3_s k)]) (tb := []) rfl rfl rfl (nil_all (by kernel_rfl)) (all_nth 2 (by kernel_rfl) ⟨join_case (by kernel_rfl) rfl (cadastreref4_mul_j5_ok1 k), join_case (by kernel_rfl) rfl (cadastreref4_mul_j3_ok0 k), trivial⟩) (fun p hp => by cases hp)
noncomputable def cadastreref4_mul_enc (r : Int × Bool) : AV UU := .pv (.tup [.int .i64 r.1, .bool r.2])
noncomputable def cadastreref4_mul_dec (v : AV UU) (_ : List (List (AV UU))) : Option (Int × Bool) :=
asT v fun q1 =>
popA q1 fun p2 q3 =>
asI .i64 (.pv p2) fun r0 =>
popA q3 fun p4 q5 =>
asB (.pv p4) fun r1 =>
popN q5 <|
some (r0, r1)
theorem cadastreref4_mul_dec_enc (v : AV UU) (b : List (List (AV UU))) (r : Int × Bool) (h : cadastreref4_mul_dec v b = some r) : v = cadastreref4_mul_enc r := by
  unfold cadastreref4_mul_dec at h
  replace h := asT_inv h; obtain ⟨q1, rfl, h⟩ := h
  replace h := popA_inv h; obtain ⟨p2, q3, rfl, h⟩ := h
  replace h := asI_inv h; obtain ⟨r0, e, h⟩ := h; cases e
  replace h := popA_inv h; obtain ⟨p4, q5, rfl, h⟩ := h
  replace h := asB_inv h; obtain ⟨r1, e, h⟩ := h; cases e
  replace h := popN_inv h; obtain ⟨rfl, h⟩ := h
  cases h
  rfl
theorem cadastreref4_mul_eq (k : Nat) (a0 : Int) (b1 : Int) : bodyK UX (cadastreref4_mul_cfg k) (cadastreref4_mul_G k) Try.f109 [.pv (.int .i64 a0), .pv (.int .i64 b1)] [] cadastreref4_mul_dec = cadastreref4_mul k a0 b1 := by kernel_rfl
theorem cadastreref4_mul_con (k : Nat) (a0 : Int) (b1 : Int) (r : Int × Bool) (h : cadastreref4_mul k a0 b1 = some r) : Con (X := UX) Try.prog 109 [.pv (.int .i64 a0), .pv (.int .i64 b1)] [] (cadastreref4_mul_enc r) [] :=
  con_of_body xok tok Try.func109 cadastreref4_mul_body (cadastreref4_mul_gok k) rfl (cadastreref4_mul_cok k) (of_decide_eq_true (by kernel_rfl)) cadastreref4_mul_dec_enc ((cadastreref4_mul_eq k a0 b1).trans h)
noncomputable def cadastreref4_mul_an {ρ : Type} (k : Nat) : An UX ρ := fun args bx K =>
popA args fun v1 a2 =>
asI .i64 v1 fun a0 =>
popA a2 fun v3 a4 =>
asI .i64 v3 fun b1 =>
popN a4 <|
popN bx <|
(cadastreref4_mul k a0 b1).bind fun r => K (cadastreref4_mul_enc r) []
theorem cadastreref4_mul_ok {ρ : Type} (k : Nat) : AnsOK Try.prog 109 (cadastreref4_mul_an (ρ := ρ) k) := by
  intro args bx K r h
  unfold cadastreref4_mul_an at h
  replace h := popA_inv h; obtain ⟨v1, a2, rfl, h⟩ := h
  replace h := asI_inv h; obtain ⟨a0, rfl, h⟩ := h
  replace h := popA_inv h; obtain ⟨v3, a4, rfl, h⟩ := h
  replace h := asI_inv h; obtain ⟨b1, rfl, h⟩ := h
  replace h := popN_inv h; obtain ⟨rfl, h⟩ := h
  replace h := popN_inv h; obtain ⟨rfl, h⟩ := h
  replace h := bind_inv h
  obtain ⟨x, hx, h⟩ := h
  exact ⟨there_of Try.func109 (by kernel_rfl) cadastreref4_mul_body, _, _, h, cadastreref4_mul_con k a0 b1 x hx⟩

/-! cadastre/cadastreref4.Do -/
noncomputable def cadastreref4_Do_code : Code := match Try.f107.body with | some c => c | none => .skip
theorem cadastreref4_Do_body : Try.f107.body = some cadastreref4_Do_code := by kernel_rfl
noncomputable def cadastreref4_Do_G {ρ : Type} (k : Nat) : Ans UX ρ := gk 109 (cadastreref4_mul_an k) (gk 99 (cadastreref2_Int_an k) (gnil))
theorem cadastreref4_Do_gok {ρ : Type} (k : Nat) : GOK Try.prog (cadastreref4_Do_G (ρ := ρ) k) := gok_cons (cadastreref4_mul_ok k) (gok_cons (cadastreref2_Int_ok k) (gok_nil))
noncomputable def cadastreref4_Do_j28_s {ρ : Type} (k : Nat) : Run UX ρ := fun s K =>
popS 6 s.env fun v1 e2 =>
asP 6 0 v1 <|
popS 10 e2 fun v3 e4 =>
asI .i64 v3 fun n10 =>
popS 11 e4 fun v5 e6 =>
asB v5 fun ok11 =>
popN e6 <|
popB 6 s.hp fun c7 e8 =>
popA c7 fun v9 c10 =>
asI .i64 v9 fun z11 =>
popA c10 fun v12 c13 =>
asI .i64 v12 fun z14 =>
popA c13 fun v15 c16 =>
asS v15 fun z17 =>
popN c16 <|
popN e8 <|
cadastreref4_Do_j28 k (fun t7 t6 => K .ret ⟨[(6, .ptr 6 0), (7, .pv (.int .i64 t7))], [(6, [.pv (.int .i64 t6.f0), .pv (.int .i64 t6.f1), .pv (.str t6.f2)])]⟩) n10 ok11 (⟨z11, z14, z17⟩ : S44)
noncomputable def cadastreref4_Do_j5_s {ρ : Type} (k : Nat) : Run UX ρ := fun s K =>
popS 0 s.env fun v1 e2 =>
asI .i64 v1 fun op0 =>
popS 4 e2 fun v3 e4 =>
asP 4 0 v3 <|
popS 5 e4 fun v5 e6 =>
asP 5 0 v5 <|
popS 6 e6 fun v7 e8 =>
asP 6 0 v7 <|
popN e8 <|
popB 4 s.hp fun c9 e10 =>
popA c9 fun v11 c12 =>
asI .i64 v11 fun z13 =>
popA c12 fun v14 c15 =>
asI .i64 v14 fun z16 =>
popA c15 fun v17 c18 =>
asS v17 fun z19 =>
popN c18 <|
popB 5 e10 fun c20 e21 =>
popA c20 fun v22 c23 =>
asI .i64 v22 fun z24 =>
popA c23 fun v25 c26 =>
asI .i64 v25 fun z27 =>
popA c26 fun v28 c29 =>
asS v28 fun z30 =>
popN c29 <|
popB 6 e21 fun c31 e32 =>
popA c31 fun v33 c34 =>
asI .i64 v33 fun z35 =>
popA c34 fun v36 c37 =>
asI .i64 v36 fun z38 =>
popA c37 fun v39 c40 =>
asS v39 fun z41 =>
popN c40 <|
popN e32 <|
cadastreref4_Do_j5 k (fun t7 t6 => K .ret ⟨[(6, .ptr 6 0), (7, .pv (.int .i64 t7))], [(6, [.pv (.int .i64 t6.f0), .pv (.int .i64 t6.f1), .pv (.str t6.f2)])]⟩) op0 (⟨z13, z16, z19⟩ : S44) (⟨z24, z27, z30⟩ : S44) (⟨z35, z38, z41⟩ : S44)
noncomputable def cadastreref4_Do_j3_s {ρ : Type} (k : Nat) : Run UX ρ := fun s K =>
popS 0 s.env fun v1 e2 =>
asI .i64 v1 fun op0 =>
popS 4 e2 fun v3 e4 =>
asP 4 0 v3 <|
popS 5 e4 fun v5 e6 =>
asP 5 0 v5 <|
popS 6 e6 fun v7 e8 =>
asP 6 0 v7 <|
popN e8 <|
popB 4 s.hp fun c9 e10 =>
popA c9 fun v11 c12 =>
asI .i64 v11 fun z13 =>
popA c12 fun v14 c15 =>
asI .i64 v14 fun z16 =>
popA c15 fun v17 c18 =>
asS v17 fun z19 =>
popN c18 <|
popB 5 e10 fun c20 e21 =>
popA c20 fun v22 c23 =>
asI .i64 v22 fun z24 =>
popA c23 fun v25 c26 =>
asI .i64 v25 fun z27 =>
popA c26 fun v28 c29 =>
asS v28 fun z30 =>
popN c29 <|
popB 6 e21 fun c31 e32 =>
popA c31 fun v33 c34 =>
asI .i64 v33 fun z35 =>
popA c34 fun v36 c37 =>
asI .i64 v36 fun z38 =>
popA c37 fun v39 c40 =>
asS v39 fun z41 =>
popN c40 <|
popN e32 <|
cadastreref4_Do_j3 k (fun t7 t6 => K .ret ⟨[(6, .ptr 6 0), (7, .pv (.int .i64 t7))], [(6, [.pv (.int .i64 t6.f0), .pv (.int .i64 t6.f1), .pv (.str t6.f2)])]⟩) op0 (⟨z13, z16, z19⟩ : S44) (⟨z24, z27, z30⟩ : S44) (⟨z35, z38, z41⟩ : S44)
noncomputable def cadastreref4_Do_cfg {ρ : Type} (k : Nat) : Cfg UX ρ where
  live i := (assoc [(0, [0, 1, 2]), (1, [0, 4, 5, 6]), (2, [6]), (3, [0, 4, 5, 6]), (4, [6]), (5, [0, 4, 5, 6]), (6, [0, 5, 6, 8]), (7, [0, 6, 8, 9]), (8, [0, 6, 8, 9]), (9, [0, 6, 8, 9, 11]), (10, [0, 6, 8, 9, 11]), (11, [6]), (12, [0, 6, 8, 9, 11]), (13, [0, 6, 8]), (14, [6]), (15, [6, 8]), (16, [6, 8, 10]), (17, [0, 6, 8, 9, 11]), (18, [6, 8, 9, 11]), (19, [6, 8, 9, 11]), (20, [0, 6, 8, 9, 11, 34]), (21, [6, 8, 9]), (22, [0, 6, 8, 9, 11, 34]), (23, [6, 8, 9]), (24, [6, 8, 9, 10]), (25, [0, 6, 8, 9, 11, 34]), (26, [6, 8, 9]), (27, [6, 8, 9, 10]), (28, [6, 10, 11]), (29, [6]), (30, [6, 10])] i).getD []
  boxes i := (assoc [(0, []), (1, [4, 5, 6]), (2, [6]), (3, [4, 5, 6]), (4, [6]), (5, [4, 5, 6]), (6, [5, 6]), (7, [6]), (8, [6]), (9, [6]), (10, [6]), (11, [6]), (12, [6]), (13, [6]), (14, [6]), (15, [6]), (16, [6]), (17, [6]), (18, [6]), (19, [6]), (20, [6]), (21, [6]), (22, [6]), (23, [6]), (24, [6]), (25, [6]), (26, [6]), (27, [6]), (28, [6]), (29, [6]), (30, [6])] i).getD []
  tk i := (assoc [] i).getD []
  n := 90
  labelR l := (assoc [] l).getD 0
  loops := assoc []
  labels := assoc []
  joins := assoc [(28, cadastreref4_Do_j28_s k), (5, cadastreref4_Do_j5_s k), (3, cadastreref4_Do_j3_s k)]
  xl i e := match e with
    | .nxt => assoc [] i
    | .ret => assoc [(28, ([6, 7], [6])), (5, ([6, 7], [6])), (3, ([6, 7], [6]))] i
    | .exit j => (assoc [] i).bind fun l => assoc l j
    | .goto j => (assoc [] i).bind fun l => assoc l j
noncomputable def cadastreref4_Do_L : List Code := selI [] (loopsOf cadastreref4_Do_code)
noncomputable def cadastreref4_Do_J : List Code := selI [28, 5, 3] (joinsOf cadastreref4_Do_code)
noncomputable def cadastreref4_Do_S : List Code := scopesOf cadastreref4_Do_code
theorem cadastreref4_Do_j3_eq0 {ρ : Type} (k : Nat) (K : Ex → St UU → Option ρ) (op0 : Int) (a4 : S44) (b5 : S44) (t6 : S44) : exec UX (cadastreref4_Do_cfg k) (cadastreref4_Do_G k) (cadastreref4_Do_J.getD 0 .skip) ⟨[(0, .pv (.int .i64 op0)), (4, .ptr 4 0), (5, .ptr 5 0), (6, .ptr 6 0)], [(4, [.pv (.int .i64 a4.f0), .pv (.int .i64 a4.f1), .pv (.str a4.f2)]), (5, [.pv (.int .i64 b5.f0), .pv (.int .i64 b5.f1), .pv (.str b5.f2)]), (6, [.pv (.int .i64 t6.f0), .pv (.int .i64 t6.f1), .pv (.str t6.f2)])]⟩ (nrmK UX (cadastreref4_Do_cfg k) 3 K) = cadastreref4_Do_j3 k (fun t7 t6 => K .ret ⟨[(6, .ptr 6 0), (7, .pv (.int .i64 t7))], [(6, [.pv (.int .i64 t6.f0), .pv (.int .i64 t6.f1), .pv (.str t6.f2)])]⟩) op0 a4 b5 t6 := by kernel_rfl
theorem cadastreref4_Do_j3_ok0 {ρ : Type} (k : Nat) : JoinOK UX (cadastreref4_Do_cfg (ρ := ρ) k) (cadastreref4_Do_G k) (cadastreref4_Do_J.getD 0 .skip) 3 (cadastreref4_Do_j3_s k) := by
  intro s K r h
  obtain ⟨env, hp⟩ := s
  unfold cadastreref4_Do_j3_s at h
  replace h := popS_inv h; obtain ⟨v1, e2, rfl, h⟩ := h
  replace h := asI_inv h; obtain ⟨op0, rfl, h⟩ := h
  replace h := popS_inv h; obtain ⟨v3, e4, rfl, h⟩ := h
  replace h := asP_inv h; obtain ⟨rfl, h⟩ := h
  replace h := popS_inv h; obtain ⟨v5, e6, rfl, h⟩ := h
  replace h := asP_inv h; obtain ⟨rfl, h⟩ := h
  replace h := popS_inv h; obtain ⟨v7, e8, rfl, h⟩ := h
  replace h := asP_inv h; obtain ⟨rfl, h⟩ := h
  replace h := popN_inv h; obtain ⟨rfl, h⟩ := h
  replace h := popB_inv h; obtain ⟨c9, e10, rfl, h⟩ := h
  replace h := popA_inv h; obtain ⟨v11, c12, rfl, h⟩ := h
  replace h := asI_inv h; obtain ⟨z13, rfl, h⟩ := h
  replace h := popA_inv h; obtain ⟨v14, c15, rfl, h⟩ := h
  replace h := asI_inv h; obtain ⟨z16, rfl, h⟩ := h
  replace h := popA_inv h; obtain ⟨v17, c18, rfl, h⟩ := h
  replace h := asS_inv h; obtain ⟨z19, rfl, h⟩ := h
  replace h := popN_inv h; obtain ⟨rfl, h⟩ := h
  replace h := popB_inv h; obtain ⟨c20, e21, rfl, h⟩ := h
  replace h := popA_inv h; obtain ⟨v22, c23, rfl, h⟩ := h
  replace h := asI_inv h; obtain ⟨z24, rfl, h⟩ := h
  replace h := popA_inv h; obtain ⟨v25, c26, rfl, h⟩ := h
  replace h := asI_inv h; obtain ⟨z27, rfl, h⟩ := h
  replace h := popA_inv h; obtain ⟨v28, c29, rfl, h⟩ := h
  replace h := asS_inv h; obtain ⟨z30, rfl, h⟩ := h
  replace h := popN_inv h; obtain ⟨rfl, h⟩ := h
  replace h := popB_inv h; obtain ⟨c31, e32, rfl, h⟩ := h
  replace h := popA_inv h; obtain ⟨v33, c34, rfl, h⟩ := h
  replace h := asI_inv h; obtain ⟨z35, rfl, h⟩ := h
  replace h := popA_inv h; obtain ⟨v36, c37, rfl, h⟩ := h
  replace h := asI_inv h; obtain ⟨z38, rfl, h⟩ := h
  replace h := popA_inv h; obtain ⟨v39, c40, rfl, h⟩ := h
  replace h := asS_inv h; obtain ⟨z41, rfl, h⟩ := h
  replace h := popN_inv h; obtain ⟨rfl, h⟩ := h
  replace h := popN_inv h; obtain ⟨rfl, h⟩ := h
  exact (cadastreref4_Do_j3_eq0 k K op0 (⟨z13, z16, z19⟩ : S44) (⟨z24, z27, z30⟩ : S44) (⟨z35, z38, z41⟩ : S44)).trans h
theorem cadastreref4_Do_j5_eq1 {ρ : Type} (k : Nat) (K : Ex → St UU → Option ρ) (op0 : Int) (a4 : S44) (b5 : S44) (t6 : S44) : exec UX (cadastreref4_Do_cfg k) (cadastreref4_Do_G k) (cadastreref4_Do_J.getD 1 .skip) ⟨[(0, .pv (.int .i64 op0)), (4, .ptr 4 0), (5, .ptr 5 0), (6, .ptr 6 0)], [(4, [.pv (.int .i64 a4.f0), .pv (.int .i64 a4.f1), .pv (.str a4.f2)]), (5, [.pv (.int .i64 b5.f0), .pv (.int .i64 b5.f1), .pv (.str b5.f2)]), (6, [.pv (.int .i64 t6.f0), .pv (.int .i64 t6.f1), .pv (.str t6.f2)])]⟩ (nrmK UX (cadastreref4_Do_cfg k) 5 K) = cadastreref4_Do_j5 k (fun t7 t6 => K .ret ⟨[(6, .ptr 6 0), (7, .pv (.int .i64 t7))], [(6, [.pv (.int .i64 t6.f0), .pv (.int .i64 t6.f1), .pv (.str t6.f2)])]⟩) op0 a4 b5 t6 := by kernel_rfl
theorem cadastreref4_Do_j5_ok1 {ρ : Type} (k : Nat) : JoinOK UX (cadastreref4_Do_cfg (ρ := ρ) k) (cadastreref4_Do_G k) (cadastreref4_Do_J.getD 1 .skip) 5 (cadastreref4_Do_j5_s k) := by
  intro s K r h
  obtain ⟨env, hp⟩ := s
  unfold cadastreref4_Do_j5_s at h
  replace h := popS_inv h; obtain ⟨v1, e2, rfl, h⟩ := h
  replace h := asI_inv h; obtain ⟨op0, rfl, h⟩ := h
  replace h := popS_inv h; obtain ⟨v3, e4, rfl, h⟩ := h
  replace h := asP_inv h; obtain ⟨rfl, h⟩ := h
  replace h := popS_inv h; obtain ⟨v5, e6, rfl, h⟩ := h
  replace h := asP_inv h; obtain ⟨rfl, h⟩ := h
  replace h := popS_inv h; obtain ⟨v7, e8, rfl, h⟩ := h
  replace h := asP_inv h; obtain ⟨rfl, h⟩ := h
  replace h := popN_inv h; obtain ⟨rfl, h⟩ := h
  replace h := popB_inv h; obtain ⟨c9, e10, rfl, h⟩ := h
  replace h := popA_inv h; obtain ⟨v11, c12, rfl, h⟩ := h
  replace h := asI_inv h; obtain ⟨z13, rfl, h⟩ := h
  replace h := popA_inv h; obtain ⟨v14, c15, rfl, h⟩ := h
  replace h := asI_inv h; obtain ⟨z16, rfl, h⟩ := h
  replace h := popA_inv h; obtain ⟨v17, c18, rfl, h⟩ := h
  replace h := asS_inv h; obtain ⟨z19, rfl, h⟩ := h
  replace h := popN_inv h; obtain ⟨rfl, h⟩ := h
  replace h := popB_inv h; obtain ⟨c20, e21, rfl, h⟩ := h
  replace h := popA_inv h; obtain ⟨v22, c23, rfl, h⟩ := h
  replace h := asI_inv h; obtain ⟨z24, rfl, h⟩ := h
  replace h := popA_inv h; obtain ⟨v25, c26, rfl, h⟩ := h
  replace h := asI_inv h; obtain ⟨z27, rfl, h⟩ := h
  replace h := popA_inv h; obtain ⟨v28, c29, rfl, h⟩ := h
  replace h := asS_inv h; obtain ⟨z30, rfl, h⟩ := h
  replace h := popN_inv h; obtain ⟨rfl, h⟩ := h
  replace h := popB_inv h; obtain ⟨c31, e32, rfl, h⟩ := h
  replace h := popA_inv h; obtain ⟨v33, c34, rfl, h⟩ := h
  replace h := asI_inv h; obtain ⟨z35, rfl, h⟩ := h
  replace h := popA_inv h; obtain ⟨v36, c37, rfl, h⟩ := h
  replace h := asI_inv h; obtain ⟨z38, rfl, h⟩ := h
  replace h := popA_inv h; obtain ⟨v39, c40, rfl, h⟩ := h
  replace h := asS_inv h; obtain ⟨z41, rfl, h⟩ := h
  replace h := popN_inv h; obtain ⟨rfl, h⟩ := h
  replace h := popN_inv h; obtain ⟨rfl, h⟩ := h
  exact (cadastreref4_Do_j5_eq1 k K op0 (⟨z13, z16, z19⟩ : S44) (⟨z24, z27, z30⟩ : S44) (⟨z35, z38, z41⟩ : S44)).trans h
theorem cadastreref4_Do_j28_eq2 {ρ : Type} (k : Nat) (K : Ex → St UU → Option ρ) (n10 : Int) (ok11 : Bool) (t6 : S44) : exec UX (cadastreref4_Do_cfg k) (cadastreref4_Do_G k) (cadastreref4_Do_J.getD 2 .skip) ⟨[(6, .ptr 6 0), (10, .pv (.int .i64 n10)), (11, .pv (.bool ok11))], [(6, [.pv (.int .i64 t6.f0), .pv (.int .i64 t6.f1), .pv (.str t6.f2)])]⟩ (nrmK UX (cadastreref4_Do_cfg k) 28 K) = cadastreref4_Do_j28 k (fun t7 t6 => K .ret ⟨[(6, .ptr 6 0), (7, .pv (.int .i64 t7))], [(6, [.pv (.int .i64 t6.f0), .pv (.int .i64 t6.f1), .pv (.str t6.f2)])]⟩) n10 ok11 t6 := by kernel_rfl
theorem cadastreref4_Do_j28_ok2 {ρ : Type} (k : Nat) : JoinOK UX (cadastreref4_Do_cfg (ρ := ρ) k) (cadastreref4_Do_G k) (cadastreref4_Do_J.getD 2 .skip) 28 (cadastreref4_Do_j28_s k) := by
  intro s K r h
  obtain ⟨env, hp⟩ := s
  unfold cadastreref4_Do_j28_s at h
  replace h := popS_inv h; obtain ⟨v1, e2, rfl, h⟩ := h
  replace h := asP_inv h; obtain ⟨rfl, h⟩ := h
  replace h := popS_inv h; obtain ⟨v3, e4, rfl, h⟩ := h
  replace h := asI_inv h; obtain ⟨n10, rfl, h⟩ := h
  replace h := popS_inv h; obtain ⟨v5, e6, rfl, h⟩ := h
  replace h := asB_inv h; obtain ⟨ok11, rfl, h⟩ := h
  replace h := popN_inv h; obtain ⟨rfl, h⟩ := h
  replace h := popB_inv h; obtain ⟨c7, e8, rfl, h⟩ := h
  replace h := popA_inv h; obtain ⟨v9, c10, rfl, h⟩ := h
  replace h := asI_inv h; obtain ⟨z11, rfl, h⟩ := h
  replace h := popA_inv h; obtain ⟨v12, c13, rfl, h⟩ := h
  replace h := asI_inv h; obtain ⟨z14, rfl, h⟩ := h
  replace h := popA_inv h; obtain ⟨v15, c16, rfl, h⟩ := h
  replace h := asS_inv h; obtain ⟨z17, rfl, h⟩ := h
  replace h := popN_inv h; obtain ⟨rfl, h⟩ := h
  replace h := popN_inv h; obtain ⟨rfl, h⟩ := h
  exact (cadastreref4_Do_j28_eq2 k K n10 ok11 (⟨z11, z14, z17⟩ : S44)).trans h
theorem cadastreref4_Do_cok {ρ : Type} (k : Nat) : COK (cadastreref4_Do_cfg (ρ := ρ) k) (cadastreref4_Do_G k) cadastreref4_Do_code :=
  cok_of (tl := []) (tj := [(28, cadastreref4_Do_j28_s k), (5, cadastreref4_Do_j5_s k), (3, cadastreref4_Do_j3_s k)]) (tb := []) rfl rfl rfl (nil_all (by kernel_rfl)) (all_nth 3 (by kernel_rfl) ⟨join_case (by kernel_rfl) rfl (cadastreref4_Do_j28_ok2 k), join_case (by kernel_rfl) rfl (cadastreref4_Do_j5_ok1 k), join_case (by kernel_rfl) rfl (cadastreref4_Do_j3_ok0 k), trivial⟩) (fun p hp => by cases hp)
noncomputable def cadastreref4_Do_enc (r : S44 × Int) : AV UU := .pv (.tup [.typ (.s44 r.1), .int .i64 r.2])
noncomputable def cadastreref4_Do_dec (v : AV UU) (_ : List (List (AV UU))) : Option (S44 × Int) :=
asT v fun q1 =>
popA q1 fun p2 q3 =>
as_s44 (.pv p2) fun r0 =>
popA q3 fun p4 q5 =>
asI .i64 (.pv p4) fun r1 =>
popN q5 <|
some (r0, r1)
theorem cadastreref4_Do_dec_enc (v : AV UU) (b : List (List (AV UU))) (r : S44 × Int) (h : cadastreref4_Do_dec v b = some r) : v = cadastreref4_Do_enc r := by
  unfold cadastreref4_Do_dec at h
  replace h := asT_inv h; obtain ⟨q1, rfl, h⟩ := h
  replace h := popA_inv h; obtain ⟨p2, q3, rfl, h⟩ := h
  replace h := as_s44_inv h; obtain ⟨r0, e, h⟩ := h; cases e
  replace h := popA_inv h; obtain ⟨p4, q5, rfl, h⟩ := h
  replace h := asI_inv h; obtain ⟨r1, e, h⟩ := h; cases e
  replace h := popN_inv h; obtain ⟨rfl, h⟩ := h
  cases h
  rfl
theorem cadastreref4_Do_eq (k : Nat) (op0 : Int) (a1 : S44) (b2 : S44) : bodyK UX (cadastreref4_Do_cfg k) (cadastreref4_Do_G k) Try.f107 [.pv (.int .i64 op0), .pv (.typ (.s44 a1)), .pv (.typ (.s44 b2))] [] cadastreref4_Do_dec = cadastreref4_Do k op0 a1 b2 := by kernel_rfl
theorem cadastreref4_Do_con (k : Nat) (op0 : Int) (a1 : S44) (b2 : S44) (r : S44 × Int) (h : cadastreref4_Do k op0 a1 b2 = some r) : Con (X := UX) Try.prog 107 [.pv (.int .i64 op0), .pv (.typ (.s44 a1)), .pv (.typ (.s44 b2))] [] (cadastreref4_Do_enc r) [] :=
  con_of_body xok tok Try.func107 cadastreref4_Do_body (cadastreref4_Do_gok k) rfl (cadastreref4_Do_cok k) (of_decide_eq_true (by kernel_rfl)) cadastreref4_Do_dec_enc ((cadastreref4_Do_eq k op0 a1 b2).trans h)
noncomputable def cadastreref4_Do_an {ρ : Type} (k : Nat) : An UX ρ := fun args bx K =>
popA args fun v1 a2 =>
asI .i64 v1 fun op0 =>
popA a2 fun v3 a4 =>
as_s44 v3 fun a1 =>
popA a4 fun v5 a6 =>
as_s44 v5 fun b2 =>
popN a6 <|
popN bx <|
(cadastreref4_Do k op0 a1 b2).bind fun r => K (cadastreref4_Do_enc r) []
theorem cadastreref4_Do_ok {ρ : Type} (k : Nat) : AnsOK Try.prog 107 (cadastreref4_Do_an (ρ := ρ) k) := by
  intro args bx K r h
  unfold cadastreref4_Do_an at h
  replace h := popA_inv h; obtain ⟨v1, a2, rfl, h⟩ := h
  replace h := asI_inv h; obtain ⟨op0, rfl, h⟩ := h
  replace h := popA_inv h; obtain ⟨v3, a4, rfl, h⟩ := h
  replace h := as_s44_inv h; obtain ⟨a1, rfl, h⟩ := h
  replace h := popA_inv h; obtain ⟨v5, a6, rfl, h⟩ := h
  replace h := as_s44_inv h; obtain ⟨b2, rfl, h⟩ := h
  replace h := popN_inv h; obtain ⟨rfl, h⟩ := h
  replace h := popN_inv h; obtain ⟨rfl, h⟩ := h
  replace h := bind_inv h
  obtain ⟨x, hx, h⟩ := h
  exact ⟨there_of Try.func107 (by kernel_rfl) cadastreref4_Do_body, _, _, h, cadastreref4_Do_con k op0 a1 b2 x hx⟩
end Go.Proofs.Ytekjibpkkgldgaa.X
