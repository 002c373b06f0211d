/-
  What the program's functions answer: the printed functions' answers.
-/
import Derived.Test.YtnoeedkbadoogaaDoorPG1
namespace Go.Proofs.YtnoeedkbadoogaaDoor.P
open Go Go.AX
/-! cadastre/lex.token -/
noncomputable def lex_token_code : Code := match Tryd.f114.body with | some c => c | none => .skip
theorem lex_token_body : Tryd.f114.body = some lex_token_code := by kernel_rfl
noncomputable def lex_token_G {ρ : Type} (k : Nat) : Ans UX ρ := gk 130 (lex_blob_an k) (gk 127 (lex_letter_an k) (gk 128 (lex_digit_an k) (gk 129 (lex_mark_an k) (gk 123 (gsel [0, 0, 133] (lex_span_f131_an k) (lex_span_f128_an k)) (gk 132 (lex_Small_an k) (gk 133 (lex_integer_an k) (gk 134 (lex_quoted_an k) (gnil))))))))
theorem lex_token_gok {ρ : Type} (k : Nat) : GOK Tryd.prog (lex_token_G (ρ := ρ) k) := gok_cons (lex_blob_ok k) (gok_cons (lex_letter_ok k) (gok_cons (lex_digit_ok k) (gok_cons (lex_mark_ok k) (gok_cons (gsel_ok (lex_span_f131_ok k) (lex_span_f128_ok k)) (gok_cons (lex_Small_ok k) (gok_cons (lex_integer_ok k) (gok_cons (lex_quoted_ok k) (gok_nil))))))))
noncomputable def lex_token_j3_s {ρ : Type} (k : Nat) : Run UX ρ := fun s K =>
popS 0 s.env fun v1 e2 =>
asS v1 fun s0 =>
popS 1 e2 fun v3 e4 =>
asI .i64 v3 fun at1 =>
popS 4 e4 fun v5 e6 =>
asP 4 0 v5 <|
popS 7 e6 fun v7 e8 =>
asI .u8 v7 fun c7 =>
popN e8 <|
popB 4 s.hp fun c9 e10 =>
popA c9 fun v11 c12 =>
asI .i64 v11 fun z13 =>
popA c12 fun v14 c15 =>
asS v14 fun z16 =>
popA c15 fun v17 c18 =>
asI .i64 v17 fun z19 =>
popN c18 <|
popN e10 <|
lex_token_j3 k (fun s0 at1 t4 => K (.goto 1) ⟨[(0, .pv (.str s0)), (1, .pv (.int .i64 at1)), (4, .ptr 4 0)], [(4, [.pv (.int .i64 t4.f0), .pv (.str t4.f1), .pv (.int .i64 t4.f2)])]⟩) (fun s0 at1 t4 => K (.goto 2) ⟨[(0, .pv (.str s0)), (1, .pv (.int .i64 at1)), (4, .ptr 4 0)], [(4, [.pv (.int .i64 t4.f0), .pv (.str t4.f1), .pv (.int .i64 t4.f2)])]⟩) (fun s0 at1 t4 => K (.goto 3) ⟨[(0, .pv (.str s0)), (1, .pv (.int .i64 at1)), (4, .ptr 4 0)], [(4, [.pv (.int .i64 t4.f0), .pv (.str t4.f1), .pv (.int .i64 t4.f2)])]⟩) (fun end5 ok6 t4 => K .ret ⟨[(4, .ptr 4 0), (5, .pv (.int .i64 end5)), (6, .pv (.bool ok6))], [(4, [.pv (.int .i64 t4.f0), .pv (.str t4.f1), .pv (.int .i64 t4.f2)])]⟩) s0 at1 c7 (⟨z13, z16, z19⟩ : S126)
noncomputable def lex_token_cfg {ρ : Type} (k : Nat) : Cfg UX ρ where
  live i := (assoc [(0, [0, 1]), (1, [0, 1, 4]), (2, [0, 1, 4, 7]), (3, [0, 1, 4, 7]), (4, [0, 1, 4, 7]), (5, [0, 1, 4, 7]), (6, [0, 1, 4]), (7, [0, 1, 4, 8]), (8, [0, 1, 4, 8]), (9, [1, 4, 8]), (10, [1, 4, 8]), (11, [1, 4, 8]), (12, [4]), (13, [0, 1, 4]), (14, [0, 1, 4]), (15, [4, 5, 6]), (16, [0, 1, 4]), (17, [0, 1, 4, 5]), (18, [0, 1, 4]), (19, [0, 1, 4]), (20, [0, 1, 4, 5]), (21, [4, 5, 6]), (22, [0, 1, 4]), (23, [0, 1, 4]), (24, [4, 5, 6])] i).getD []
  boxes i := (assoc [(0, []), (1, [4]), (2, [4]), (3, [4]), (4, [4]), (5, [4]), (6, [4]), (7, [4]), (8, [4]), (9, [4]), (10, [4]), (11, [4]), (12, [4]), (13, [4]), (14, [4]), (15, [4]), (16, [4]), (17, [4]), (18, [4]), (19, [4]), (20, [4]), (21, [4]), (22, [4]), (23, [4]), (24, [4])] i).getD []
  tk i := (assoc [] i).getD []
  n := 112
  labelR l := (assoc [] l).getD 0
  loops := assoc []
  labels := assoc []
  joins := assoc [(3, lex_token_j3_s k)]
  xl i e := match e with
    | .nxt => assoc [] i
    | .ret => assoc [(3, ([4, 5, 6], [4]))] i
    | .exit j => (assoc [] i).bind fun l => assoc l j
    | .goto j => (assoc [(3, [(1, ([0, 1, 4], [4])), (2, ([0, 1, 4], [4])), (3, ([0, 1, 4], [4]))])] i).bind fun l => assoc l j
noncomputable def lex_token_L : List Code := selI [] (loopsOf lex_token_code)
noncomputable def lex_token_J : List Code := selI [3] (joinsOf lex_token_code)
noncomputable def lex_token_S : List Code := scopesOf lex_token_code
theorem lex_token_j3_eq0 {ρ : Type} (k : Nat) (K : Ex → St UU → Option ρ) (s0 : ByteArray) (at1 : Int) (c7 : Int) (t4 : S126) : exec UX (lex_token_cfg k) (lex_token_G k) (lex_token_J.getD 0 .skip) ⟨[(0, .pv (.str s0)), (1, .pv (.int .i64 at1)), (4, .ptr 4 0), (7, .pv (.int .u8 c7))], [(4, [.pv (.int .i64 t4.f0), .pv (.str t4.f1), .pv (.int .i64 t4.f2)])]⟩ (nrmK UX (lex_token_cfg k) 3 K) = lex_token_j3 k (fun s0 at1 t4 => K (.goto 1) ⟨[(0, .pv (.str s0)), (1, .pv (.int .i64 at1)), (4, .ptr 4 0)], [(4, [.pv (.int .i64 t4.f0), .pv (.str t4.f1), .pv (.int .i64 t4.f2)])]⟩) (fun s0 at1 t4 => K (.goto 2) ⟨[(0, .pv (.str s0)), (1, .pv (.int .i64 at1)), (4, .ptr 4 0)], [(4, [.pv (.int .i64 t4.f0), .pv (.str t4.f1), .pv (.int .i64 t4.f2)])]⟩) (fun s0 at1 t4 => K (.goto 3) ⟨[(0, .pv (.str s0)), (1, .pv (.int .i64 at1)), (4, .ptr 4 0)], [(4, [.pv (.int .i64 t4.f0), .pv (.str t4.f1), .pv (.int .i64 t4.f2)])]⟩) (fun end5 ok6 t4 => K .ret ⟨[(4, .ptr 4 0), (5, .pv (.int .i64 end5)), (6, .pv (.bool ok6))], [(4, [.pv (.int .i64 t4.f0), .pv (.str t4.f1), .pv (.int .i64 t4.f2)])]⟩) s0 at1 c7 t4 := by kernel_rfl
theorem lex_token_j3_ok0 {ρ : Type} (k : Nat) : JoinOK UX (lex_token_cfg (ρ := ρ) k) (lex_token_G k) (lex_token_J.getD 0 .skip) 3 (lex_token_j3_s k) := by
  intro s K r h
  obtain ⟨env, hp⟩ := s
  unfold lex_token_j3_s at h
  replace h := popS_inv h; obtain ⟨v1, e2, rfl, h⟩ := h
  replace h := asS_inv h; obtain ⟨s0, rfl, h⟩ := h
  replace h := popS_inv h; obtain ⟨v3, e4, rfl, h⟩ := h
  replace h := asI_inv h; obtain ⟨at1, rfl, h⟩ := h
  replace h := popS_inv h; obtain ⟨v5, e6, rfl, h⟩ := h
  replace h := asP_inv h; obtain ⟨rfl, h⟩ := h
  replace h := popS_inv h; obtain ⟨v7, e8, rfl, h⟩ := h
  replace h := asI_inv h; obtain ⟨c7, rfl, h⟩ := h
  replace h := popN_inv h; obtain ⟨rfl, h⟩ := h
  replace h := popB_inv h; obtain ⟨c9, e10, rfl, h⟩ := h
  replace h := popA_inv h; obtain ⟨v11, c12, rfl, h⟩ := h
  replace h := asI_inv h; obtain ⟨z13, rfl, h⟩ := h
  replace h := popA_inv h; obtain ⟨v14, c15, rfl, h⟩ := h
  replace h := asS_inv h; obtain ⟨z16, rfl, h⟩ := h
  replace h := popA_inv h; obtain ⟨v17, c18, rfl, h⟩ := h
  replace h := asI_inv h; obtain ⟨z19, rfl, h⟩ := h
  replace h := popN_inv h; obtain ⟨rfl, h⟩ := h
  replace h := popN_inv h; obtain ⟨rfl, h⟩ := h
  exact (lex_token_j3_eq0 k K s0 at1 c7 (⟨z13, z16, z19⟩ : S126)).trans h
theorem lex_token_cok {ρ : Type} (k : Nat) : COK (lex_token_cfg (ρ := ρ) k) (lex_token_G k) lex_token_code :=
  cok_of (tl := []) (tj := [(3, lex_token_j3_s k)]) (tb := []) rfl rfl rfl (nil_all (by kernel_rfl)) (all_nth 1 (by kernel_rfl) ⟨join_case (by kernel_rfl) rfl (lex_token_j3_ok0 k), trivial⟩) (fun p hp => by cases hp)
noncomputable def lex_token_enc (r : S126 × Int × Bool) : AV UU := .pv (.tup [.typ (.s126 r.1), .int .i64 r.2.1, .bool r.2.2])
noncomputable def lex_token_dec (v : AV UU) (_ : List (List (AV UU))) : Option (S126 × Int × Bool) :=
asT v fun q1 =>
popA q1 fun p2 q3 =>
as_s126 (.pv p2) fun r0 =>
popA q3 fun p4 q5 =>
asI .i64 (.pv p4) fun r1 =>
popA q5 fun p6 q7 =>
asB (.pv p6) fun r2 =>
popN q7 <|
some (r0, r1, r2)
theorem lex_token_dec_enc (v : AV UU) (b : List (List (AV UU))) (r : S126 × Int × Bool) (h : lex_token_dec v b = some r) : v = lex_token_enc r := by
  unfold lex_token_dec at h
  replace h := asT_inv h; obtain ⟨q1, rfl, h⟩ := h
  replace h := popA_inv h; obtain ⟨p2, q3, rfl, h⟩ := h
  replace h := as_s126_inv h; obtain ⟨r0, e, h⟩ := h; cases e
  replace h := popA_inv h; obtain ⟨p4, q5, rfl, h⟩ := h
  replace h := asI_inv h; obtain ⟨r1, e, h⟩ := h; cases e
  replace h := popA_inv h; obtain ⟨p6, q7, rfl, h⟩ := h
  replace h := asB_inv h; obtain ⟨r2, e, h⟩ := h; cases e
  replace h := popN_inv h; obtain ⟨rfl, h⟩ := h
  cases h
  rfl
theorem lex_token_eq (k : Nat) (s0 : ByteArray) (at1 : Int) : bodyK UX (lex_token_cfg k) (lex_token_G k) Tryd.f114 [.pv (.str s0), .pv (.int .i64 at1)] [] lex_token_dec = lex_token k s0 at1 := by kernel_rfl
theorem lex_token_con (k : Nat) (s0 : ByteArray) (at1 : Int) (r : S126 × Int × Bool) (h : lex_token k s0 at1 = some r) : Con (X := UX) Tryd.prog 114 [.pv (.str s0), .pv (.int .i64 at1)] [] (lex_token_enc r) [] :=
  con_of_body xok tok Tryd.func114 lex_token_body (lex_token_gok k) rfl (lex_token_cok k) (of_decide_eq_true (by kernel_rfl)) lex_token_dec_enc ((lex_token_eq k s0 at1).trans h)
noncomputable def lex_token_an {ρ : Type} (k : Nat) : An UX ρ := fun args bx K =>
popA args fun v1 a2 =>
asS v1 fun s0 =>
popA a2 fun v3 a4 =>
asI .i64 v3 fun at1 =>
popN a4 <|
popN bx <|
(lex_token k s0 at1).bind fun r => K (lex_token_enc r) []
theorem lex_token_ok {ρ : Type} (k : Nat) : AnsOK Tryd.prog 114 (lex_token_an (ρ := ρ) k) := by
  intro args bx K r h
  unfold lex_token_an at h
  replace h := popA_inv h; obtain ⟨v1, a2, rfl, h⟩ := h
  replace h := asS_inv h; obtain ⟨s0, rfl, h⟩ := h
  replace h := popA_inv h; obtain ⟨v3, a4, rfl, h⟩ := h
  replace h := asI_inv h; obtain ⟨at1, rfl, h⟩ := h
  replace h := popN_inv h; obtain ⟨rfl, h⟩ := h
  replace h := popN_inv h; obtain ⟨rfl, h⟩ := h
  replace h := bind_inv h
  obtain ⟨x, hx, h⟩ := h
  exact ⟨there_of Tryd.func114 (by kernel_rfl) lex_token_body, _, _, h, lex_token_con k s0 at1 x hx⟩

/-! cadastre/lex.long -/
noncomputable def lex_long_code : Code := match Tryd.f115.body with | some c => c | none => .skip
theorem lex_long_body : Tryd.f115.body = some lex_long_code := by kernel_rfl
noncomputable def lex_long_G {ρ : Type} (k : Nat) : Ans UX ρ := gnil
theorem lex_long_gok {ρ : Type} (k : Nat) : GOK Tryd.prog (lex_long_G (ρ := ρ) k) := gok_nil
noncomputable def lex_long_cfg {ρ : Type} (k : Nat) : Cfg UX ρ where
  live i := (assoc [(0, [0]), (1, [1]), (2, [1]), (3, [1])] i).getD []
  boxes i := (assoc [(0, []), (1, [1]), (2, [1]), (3, [1])] i).getD []
  tk i := (assoc [] i).getD []
  n := 14
  labelR l := (assoc [] l).getD 0
  loops := assoc []
  labels := assoc []
  joins := assoc []
  xl i e := match e with
    | .nxt => assoc [] i
    | .ret => assoc [] i
    | .exit j => (assoc [] i).bind fun l => assoc l j
    | .goto j => (assoc [] i).bind fun l => assoc l j
noncomputable def lex_long_L : List Code := selI [] (loopsOf lex_long_code)
noncomputable def lex_long_J : List Code := selI [] (joinsOf lex_long_code)
noncomputable def lex_long_S : List Code := scopesOf lex_long_code
theorem lex_long_cok {ρ : Type} (k : Nat) : COK (lex_long_cfg (ρ := ρ) k) (lex_long_G k) lex_long_code :=
  cok_of (tl := []) (tj := []) (tb := []) rfl rfl rfl (nil_all (by kernel_rfl)) (nil_all (by kernel_rfl)) (fun p hp => by cases hp)
noncomputable def lex_long_enc (r : Bool) : AV UU := .pv (.bool r)
noncomputable def lex_long_dec (v : AV UU) (_ : List (List (AV UU))) : Option Bool :=
asB v fun r0 =>
some r0
theorem lex_long_dec_enc (v : AV UU) (b : List (List (AV UU))) (r : Bool) (h : lex_long_dec v b = some r) : v = lex_long_enc r := by
  unfold lex_long_dec at h
  replace h := asB_inv h; obtain ⟨r0, rfl, h⟩ := h
  cases h
  rfl
theorem lex_long_eq (k : Nat) (t0 : S126) : bodyK UX (lex_long_cfg k) (lex_long_G k) Tryd.f115 [.pv (.typ (.s126 t0))] [] lex_long_dec = lex_long k t0 := by kernel_rfl
theorem lex_long_con (k : Nat) (t0 : S126) (r : Bool) (h : lex_long k t0 = some r) : Con (X := UX) Tryd.prog 115 [.pv (.typ (.s126 t0))] [] (lex_long_enc r) [] :=
  con_of_body xok tok Tryd.func115 lex_long_body (lex_long_gok k) rfl (lex_long_cok k) (of_decide_eq_true (by kernel_rfl)) lex_long_dec_enc ((lex_long_eq k t0).trans h)
noncomputable def lex_long_an {ρ : Type} (k : Nat) : An UX ρ := fun args bx K =>
popA args fun v1 a2 =>
as_s126 v1 fun t0 =>
popN a2 <|
popN bx <|
(lex_long k t0).bind fun r => K (lex_long_enc r) []
theorem lex_long_ok {ρ : Type} (k : Nat) : AnsOK Tryd.prog 115 (lex_long_an (ρ := ρ) k) := by
  intro args bx K r h
  unfold lex_long_an at h
  replace h := popA_inv h; obtain ⟨v1, a2, rfl, h⟩ := h
  replace h := as_s126_inv h; obtain ⟨t0, rfl, h⟩ := h
  replace h := popN_inv h; obtain ⟨rfl, h⟩ := h
  replace h := popN_inv h; obtain ⟨rfl, h⟩ := h
  replace h := bind_inv h
  obtain ⟨x, hx, h⟩ := h
  exact ⟨there_of Tryd.func115 (by kernel_rfl) lex_long_body, _, _, h, lex_long_con k t0 x hx⟩

/-! cadastre/lex.Tokens -/
noncomputable def lex_Tokens_code : Code := match Tryd.f103.body with | some c => c | none => .skip
theorem lex_Tokens_body : Tryd.f103.body = some lex_Tokens_code := by kernel_rfl
noncomputable def lex_Tokens_G {ρ : Type} (k : Nat) : Ans UX ρ := gk 113 (lex_skip_an k) (gk 114 (lex_token_an k) (gk 115 (lex_long_an k) (gnil)))
theorem lex_Tokens_gok {ρ : Type} (k : Nat) : GOK Tryd.prog (lex_Tokens_G (ρ := ρ) k) := gok_cons (lex_skip_ok k) (gok_cons (lex_token_ok k) (gok_cons (lex_long_ok k) (gok_nil)))
noncomputable def lex_Tokens_l6_s {ρ : Type} (k : Nat) : Run UX ρ := fun s K =>
popS 0 s.env fun v1 e2 =>
asS v1 fun s0 =>
popS 4 e2 fun v3 e4 =>
asO_l126 v3 fun l4 =>
popS 5 e4 fun v5 e6 =>
asI .i64 v5 fun e5 =>
popS 6 e6 fun v7 e8 =>
asI .i64 v7 fun at6 =>
popN e8 <|
popN s.hp <|
lex_Tokens_l6 k (fun t2 t3 => K .ret ⟨[(2, .own (.l126 t2)), (3, .pv (.int .i64 t3))], []⟩) (fun l4 e5 => K (.exit 0) ⟨[(4, .own (.l126 l4)), (5, .pv (.int .i64 e5))], []⟩) k s0 l4 e5 at6
noncomputable def lex_Tokens_cfg {ρ : Type} (k : Nat) : Cfg UX ρ where
  live i := (assoc [(0, [0]), (1, [0]), (2, []), (3, [0]), (4, [0, 4]), (5, [0, 4, 5]), (6, [0, 4, 5, 6]), (7, [0, 4, 5, 6]), (8, [0, 4, 5, 6]), (9, [0, 4, 5, 7, 8, 9]), (10, []), (11, [0, 4, 5, 7, 8]), (12, [0, 4, 7, 8]), (13, [0, 4, 5, 7, 8]), (14, [0, 4, 5, 8]), (15, [4, 5]), (16, [5]), (17, [4])] i).getD []
  boxes i := (assoc [(0, []), (1, []), (2, []), (3, []), (4, []), (5, []), (6, []), (7, []), (8, []), (9, [7]), (10, []), (11, [7]), (12, [7]), (13, [7]), (14, []), (15, []), (16, []), (17, [])] i).getD []
  tk i := (assoc [(1000000, [2, 4])] i).getD []
  n := 42
  labelR l := (assoc [] l).getD 0
  loops := assoc [(6, lex_Tokens_l6_s k)]
  labels := assoc []
  joins := assoc []
  xl i e := match e with
    | .nxt => assoc [] i
    | .ret => assoc [(6, ([2, 3], []))] i
    | .exit j => (assoc [(6, [(0, ([4, 5], []))])] i).bind fun l => assoc l j
    | .goto j => (assoc [] i).bind fun l => assoc l j
noncomputable def lex_Tokens_L : List Code := selI [6] (loopsOf lex_Tokens_code)
noncomputable def lex_Tokens_J : List Code := selI [] (joinsOf lex_Tokens_code)
noncomputable def lex_Tokens_S : List Code := scopesOf lex_Tokens_code
theorem lex_Tokens_l6_eq0 {ρ : Type} (k : Nat) (K : Ex → St UU → Option ρ) : ∀ (n : Nat) (v : ByteArray × (List S126) × Int × Int), iterK UX (fun s => s.at (lex_Tokens_cfg (ρ := ρ) k).live (lex_Tokens_cfg (ρ := ρ) k).boxes (some 6)) (exec UX (lex_Tokens_cfg k) (lex_Tokens_G k) (lex_Tokens_L.getD 0 .skip)) n ⟨[(0, .pv (.str v.1)), (4, .own (.l126 v.2.1)), (5, .pv (.int .i64 v.2.2.1)), (6, .pv (.int .i64 v.2.2.2))], []⟩ (nrmK UX (lex_Tokens_cfg k) 6 K) = lex_Tokens_l6 k (fun t2 t3 => K .ret ⟨[(2, .own (.l126 t2)), (3, .pv (.int .i64 t3))], []⟩) (fun l4 e5 => K (.exit 0) ⟨[(4, .own (.l126 l4)), (5, .pv (.int .i64 e5))], []⟩) n v.1 v.2.1 v.2.2.1 v.2.2.2 :=
  iter_rec (X := UX) (fun v => ⟨[(0, .pv (.str v.1)), (4, .own (.l126 v.2.1)), (5, .pv (.int .i64 v.2.2.1)), (6, .pv (.int .i64 v.2.2.2))], []⟩) (fun rec v => lex_Tokens_l6_b k (fun t2 t3 => K .ret ⟨[(2, .own (.l126 t2)), (3, .pv (.int .i64 t3))], []⟩) (fun l4 e5 => K (.exit 0) ⟨[(4, .own (.l126 l4)), (5, .pv (.int .i64 e5))], []⟩) (fun s0 l4 e5 at6 => rec (s0, l4, e5, at6)) v.1 v.2.1 v.2.2.1 v.2.2.2) (fun n v => lex_Tokens_l6 k (fun t2 t3 => K .ret ⟨[(2, .own (.l126 t2)), (3, .pv (.int .i64 t3))], []⟩) (fun l4 e5 => K (.exit 0) ⟨[(4, .own (.l126 l4)), (5, .pv (.int .i64 e5))], []⟩) n v.1 v.2.1 v.2.2.1 v.2.2.2) (fun n v => by kernel_rfl) (fun _ => rfl) (fun _ _ => rfl)
theorem lex_Tokens_l6_ok0 {ρ : Type} (k : Nat) : IterOK UX (lex_Tokens_cfg (ρ := ρ) k) (lex_Tokens_G k) (lex_Tokens_L.getD 0 .skip) 6 (lex_Tokens_l6_s k) := by
  intro s K r h
  obtain ⟨env, hp⟩ := s
  unfold lex_Tokens_l6_s at h
  replace h := popS_inv h; obtain ⟨v1, e2, rfl, h⟩ := h
  replace h := asS_inv h; obtain ⟨s0, rfl, h⟩ := h
  replace h := popS_inv h; obtain ⟨v3, e4, rfl, h⟩ := h
  replace h := asO_l126_inv h; obtain ⟨l4, rfl, h⟩ := h
  replace h := popS_inv h; obtain ⟨v5, e6, rfl, h⟩ := h
  replace h := asI_inv h; obtain ⟨e5, rfl, h⟩ := h
  replace h := popS_inv h; obtain ⟨v7, e8, rfl, h⟩ := h
  replace h := asI_inv h; obtain ⟨at6, rfl, h⟩ := h
  replace h := popN_inv h; obtain ⟨rfl, h⟩ := h
  replace h := popN_inv h; obtain ⟨rfl, h⟩ := h
  exact ⟨k, (lex_Tokens_l6_eq0 k K k (s0, l4, e5, at6)).trans h⟩
theorem lex_Tokens_cok {ρ : Type} (k : Nat) : COK (lex_Tokens_cfg (ρ := ρ) k) (lex_Tokens_G k) lex_Tokens_code :=
  cok_of (tl := [(6, lex_Tokens_l6_s k)]) (tj := []) (tb := []) rfl rfl rfl (all_nth 1 (by kernel_rfl) ⟨iter_case (by kernel_rfl) rfl (lex_Tokens_l6_ok0 k), trivial⟩) (nil_all (by kernel_rfl)) (fun p hp => by cases hp)
noncomputable def lex_Tokens_enc (r : (List S126) × Int) : AV UU := .pv (.tup [.typ (.l126 r.1), .int .i64 r.2])
noncomputable def lex_Tokens_dec (v : AV UU) (_ : List (List (AV UU))) : Option ((List S126) × Int) :=
asT v fun q1 =>
popA q1 fun p2 q3 =>
as_l126 (.pv p2) fun r0 =>
popA q3 fun p4 q5 =>
asI .i64 (.pv p4) fun r1 =>
popN q5 <|
some (r0, r1)
theorem lex_Tokens_dec_enc (v : AV UU) (b : List (List (AV UU))) (r : (List S126) × Int) (h : lex_Tokens_dec v b = some r) : v = lex_Tokens_enc r := by
  unfold lex_Tokens_dec at h
  replace h := asT_inv h; obtain ⟨q1, rfl, h⟩ := h
  replace h := popA_inv h; obtain ⟨p2, q3, rfl, h⟩ := h
  replace h := as_l126_inv h; obtain ⟨r0, e, h⟩ := h; cases e
  replace h := popA_inv h; obtain ⟨p4, q5, rfl, h⟩ := h
  replace h := asI_inv h; obtain ⟨r1, e, h⟩ := h; cases e
  replace h := popN_inv h; obtain ⟨rfl, h⟩ := h
  cases h
  rfl
theorem lex_Tokens_eq (k : Nat) (s0 : ByteArray) : bodyK UX (lex_Tokens_cfg k) (lex_Tokens_G k) Tryd.f103 [.pv (.str s0)] [] lex_Tokens_dec = lex_Tokens k s0 := by kernel_rfl
theorem lex_Tokens_con (k : Nat) (s0 : ByteArray) (r : (List S126) × Int) (h : lex_Tokens k s0 = some r) : Con (X := UX) Tryd.prog 103 [.pv (.str s0)] [] (lex_Tokens_enc r) [] :=
  con_of_body xok tok Tryd.func103 lex_Tokens_body (lex_Tokens_gok k) rfl (lex_Tokens_cok k) (of_decide_eq_true (by kernel_rfl)) lex_Tokens_dec_enc ((lex_Tokens_eq k s0).trans h)
noncomputable def lex_Tokens_an {ρ : Type} (k : Nat) : An UX ρ := fun args bx K =>
popA args fun v1 a2 =>
asS v1 fun s0 =>
popN a2 <|
popN bx <|
(lex_Tokens k s0).bind fun r => K (lex_Tokens_enc r) []
theorem lex_Tokens_ok {ρ : Type} (k : Nat) : AnsOK Tryd.prog 103 (lex_Tokens_an (ρ := ρ) k) := by
  intro args bx K r h
  unfold lex_Tokens_an at h
  replace h := popA_inv h; obtain ⟨v1, a2, rfl, h⟩ := h
  replace h := asS_inv h; obtain ⟨s0, rfl, h⟩ := h
  replace h := popN_inv h; obtain ⟨rfl, h⟩ := h
  replace h := popN_inv h; obtain ⟨rfl, h⟩ := h
  replace h := bind_inv h
  obtain ⟨x, hx, h⟩ := h
  exact ⟨there_of Tryd.func103 (by kernel_rfl) lex_Tokens_body, _, _, h, lex_Tokens_con k s0 x hx⟩

/-! cadastre/parse.Keys -/
noncomputable def parse_Keys_code : Code := match Tryd.f117.body with | some c => c | none => .skip
theorem parse_Keys_body : Tryd.f117.body = some parse_Keys_code := by kernel_rfl
noncomputable def parse_Keys_G {ρ : Type} (k : Nat) : Ans UX ρ := gnil
theorem parse_Keys_gok {ρ : Type} (k : Nat) : GOK Tryd.prog (parse_Keys_G (ρ := ρ) k) := gok_nil
noncomputable def parse_Keys_cfg {ρ : Type} (k : Nat) : Cfg UX ρ where
  live i := (assoc [(0, []), (1, [])] i).getD []
  boxes i := (assoc [(0, []), (1, [])] i).getD []
  tk i := (assoc [(1000000, [0])] i).getD []
  n := 2
  labelR l := (assoc [] l).getD 0
  loops := assoc []
  labels := assoc []
  joins := assoc []
  xl i e := match e with
    | .nxt => assoc [] i
    | .ret => assoc [] i
    | .exit j => (assoc [] i).bind fun l => assoc l j
    | .goto j => (assoc [] i).bind fun l => assoc l j
noncomputable def parse_Keys_L : List Code := selI [] (loopsOf parse_Keys_code)
noncomputable def parse_Keys_J : List Code := selI [] (joinsOf parse_Keys_code)
noncomputable def parse_Keys_S : List Code := scopesOf parse_Keys_code
theorem parse_Keys_cok {ρ : Type} (k : Nat) : COK (parse_Keys_cfg (ρ := ρ) k) (parse_Keys_G k) parse_Keys_code :=
  cok_of (tl := []) (tj := []) (tb := []) rfl rfl rfl (nil_all (by kernel_rfl)) (nil_all (by kernel_rfl)) (fun p hp => by cases hp)
noncomputable def parse_Keys_enc (r : (List ByteArray)) : AV UU := .own (.ls r)
noncomputable def parse_Keys_dec (v : AV UU) (_ : List (List (AV UU))) : Option (List ByteArray) :=
asO_ls v fun r =>
some r
theorem parse_Keys_dec_enc (v : AV UU) (b : List (List (AV UU))) (r : (List ByteArray)) (h : parse_Keys_dec v b = some r) : v = parse_Keys_enc r := by
  unfold parse_Keys_dec at h
  replace h := asO_ls_inv h; obtain ⟨r, rfl, h⟩ := h
  cases h
  rfl
theorem parse_Keys_eq (k : Nat) : bodyK UX (parse_Keys_cfg k) (parse_Keys_G k) Tryd.f117 [] [] parse_Keys_dec = parse_Keys k := by kernel_rfl
theorem parse_Keys_con (k : Nat) (r : (List ByteArray)) (h : parse_Keys k = some r) : Con (X := UX) Tryd.prog 117 [] [] (parse_Keys_enc r) [] :=
  con_of_body xok tok Tryd.func117 parse_Keys_body (parse_Keys_gok k) rfl (parse_Keys_cok k) (of_decide_eq_true (by kernel_rfl)) parse_Keys_dec_enc ((parse_Keys_eq k).trans h)
noncomputable def parse_Keys_an {ρ : Type} (k : Nat) : An UX ρ := fun args bx K =>
popN args <|
popN bx <|
(parse_Keys k).bind fun r => K (parse_Keys_enc r) []
theorem parse_Keys_ok {ρ : Type} (k : Nat) : AnsOK Tryd.prog 117 (parse_Keys_an (ρ := ρ) k) := by
  intro args bx K r h
  unfold parse_Keys_an at h
  replace h := popN_inv h; obtain ⟨rfl, h⟩ := h
  replace h := popN_inv h; obtain ⟨rfl, h⟩ := h
  replace h := bind_inv h
  obtain ⟨x, hx, h⟩ := h
  exact ⟨there_of Tryd.func117 (by kernel_rfl) parse_Keys_body, _, _, h, parse_Keys_con k x hx⟩

/-! cmp.isNaN[string] -/
noncomputable def cmp_isNaN_string__code : Code := match Tryd.f142.body with | some c => c | none => .skip
theorem cmp_isNaN_string__body : Tryd.f142.body = some cmp_isNaN_string__code := by kernel_rfl
noncomputable def cmp_isNaN_string__G {ρ : Type} (k : Nat) : Ans UX ρ := gnil
theorem cmp_isNaN_string__gok {ρ : Type} (k : Nat) : GOK Tryd.prog (cmp_isNaN_string__G (ρ := ρ) k) := gok_nil
noncomputable def cmp_isNaN_string__cfg {ρ : Type} (k : Nat) : Cfg UX ρ where
  live i := (assoc [(0, [0]), (1, [0])] i).getD []
  boxes i := (assoc [(0, []), (1, [])] i).getD []
  tk i := (assoc [] i).getD []
  n := 6
  labelR l := (assoc [] l).getD 0
  loops := assoc []
  labels := assoc []
  joins := assoc []
  xl i e := match e with
    | .nxt => assoc [] i
    | .ret => assoc [] i
    | .exit j => (assoc [] i).bind fun l => assoc l j
    | .goto j => (assoc [] i).bind fun l => assoc l j
noncomputable def cmp_isNaN_string__L : List Code := selI [] (loopsOf cmp_isNaN_string__code)
noncomputable def cmp_isNaN_string__J : List Code := selI [] (joinsOf cmp_isNaN_string__code)
noncomputable def cmp_isNaN_string__S : List Code := scopesOf cmp_isNaN_string__code
theorem cmp_isNaN_string__cok {ρ : Type} (k : Nat) : COK (cmp_isNaN_string__cfg (ρ := ρ) k) (cmp_isNaN_string__G k) cmp_isNaN_string__code :=
  cok_of (tl := []) (tj := []) (tb := []) rfl rfl rfl (nil_all (by kernel_rfl)) (nil_all (by kernel_rfl)) (fun p hp => by cases hp)
noncomputable def cmp_isNaN_string__enc (r : Bool) : AV UU := .pv (.bool r)
noncomputable def cmp_isNaN_string__dec (v : AV UU) (_ : List (List (AV UU))) : Option Bool :=
asB v fun r0 =>
some r0
theorem cmp_isNaN_string__dec_enc (v : AV UU) (b : List (List (AV UU))) (r : Bool) (h : cmp_isNaN_string__dec v b = some r) : v = cmp_isNaN_string__enc r := by
  unfold cmp_isNaN_string__dec at h
  replace h := asB_inv h; obtain ⟨r0, rfl, h⟩ := h
  cases h
  rfl
theorem cmp_isNaN_string__eq (k : Nat) (x0 : ByteArray) : bodyK UX (cmp_isNaN_string__cfg k) (cmp_isNaN_string__G k) Tryd.f142 [.pv (.str x0)] [] cmp_isNaN_string__dec = cmp_isNaN_string_ k x0 := by kernel_rfl
theorem cmp_isNaN_string__con (k : Nat) (x0 : ByteArray) (r : Bool) (h : cmp_isNaN_string_ k x0 = some r) : Con (X := UX) Tryd.prog 142 [.pv (.str x0)] [] (cmp_isNaN_string__enc r) [] :=
  con_of_body xok tok Tryd.func142 cmp_isNaN_string__body (cmp_isNaN_string__gok k) rfl (cmp_isNaN_string__cok k) (of_decide_eq_true (by kernel_rfl)) cmp_isNaN_string__dec_enc ((cmp_isNaN_string__eq k x0).trans h)
noncomputable def cmp_isNaN_string__an {ρ : Type} (k : Nat) : An UX ρ := fun args bx K =>
popA args fun v1 a2 =>
asS v1 fun x0 =>
popN a2 <|
popN bx <|
(cmp_isNaN_string_ k x0).bind fun r => K (cmp_isNaN_string__enc r) []
theorem cmp_isNaN_string__ok {ρ : Type} (k : Nat) : AnsOK Tryd.prog 142 (cmp_isNaN_string__an (ρ := ρ) k) := by
  intro args bx K r h
  unfold cmp_isNaN_string__an at h
  replace h := popA_inv h; obtain ⟨v1, a2, rfl, h⟩ := h
  replace h := asS_inv h; obtain ⟨x0, rfl, h⟩ := h
  replace h := popN_inv h; obtain ⟨rfl, h⟩ := h
  replace h := popN_inv h; obtain ⟨rfl, h⟩ := h
  replace h := bind_inv h
  obtain ⟨x, hx, h⟩ := h
  exact ⟨there_of Tryd.func142 (by kernel_rfl) cmp_isNaN_string__body, _, _, h, cmp_isNaN_string__con k x0 x hx⟩

/-! cmp.Less[string] -/
noncomputable def cmp_Less_string__code : Code := match Tryd.f135.body with | some c => c | none => .skip
theorem cmp_Less_string__body : Tryd.f135.body = some cmp_Less_string__code := by kernel_rfl
noncomputable def cmp_Less_string__G {ρ : Type} (k : Nat) : Ans UX ρ := gk 142 (cmp_isNaN_string__an k) (gnil)
theorem cmp_Less_string__gok {ρ : Type} (k : Nat) : GOK Tryd.prog (cmp_Less_string__G (ρ := ρ) k) := gok_cons (cmp_isNaN_string__ok k) (gok_nil)
noncomputable def cmp_Less_string__cfg {ρ : Type} (k : Nat) : Cfg UX ρ where
  live i := (assoc [(0, [0, 1]), (1, [0, 1])] i).getD []
  boxes i := (assoc [(0, []), (1, [])] i).getD []
  tk i := (assoc [] i).getD []
  n := 17
  labelR l := (assoc [] l).getD 0
  loops := assoc []
  labels := assoc []
  joins := assoc []
  xl i e := match e with
    | .nxt => assoc [] i
    | .ret => assoc [] i
    | .exit j => (assoc [] i).bind fun l => assoc l j
    | .goto j => (assoc [] i).bind fun l => assoc l j
noncomputable def cmp_Less_string__L : List Code := selI [] (loopsOf cmp_Less_string__code)
noncomputable def cmp_Less_string__J : List Code := selI [] (joinsOf cmp_Less_string__code)
noncomputable def cmp_Less_string__S : List Code := scopesOf cmp_Less_string__code
theorem cmp_Less_string__cok {ρ : Type} (k : Nat) : COK (cmp_Less_string__cfg (ρ := ρ) k) (cmp_Less_string__G k) cmp_Less_string__code :=
  cok_of (tl := []) (tj := []) (tb := []) rfl rfl rfl (nil_all (by kernel_rfl)) (nil_all (by kernel_rfl)) (fun p hp => by cases hp)
noncomputable def cmp_Less_string__enc (r : Bool) : AV UU := .pv (.bool r)
noncomputable def cmp_Less_string__dec (v : AV UU) (_ : List (List (AV UU))) : Option Bool :=
asB v fun r0 =>
some r0
theorem cmp_Less_string__dec_enc (v : AV UU) (b : List (List (AV UU))) (r : Bool) (h : cmp_Less_string__dec v b = some r) : v = cmp_Less_string__enc r := by
  unfold cmp_Less_string__dec at h
  replace h := asB_inv h; obtain ⟨r0, rfl, h⟩ := h
  cases h
  rfl
theorem cmp_Less_string__eq (k : Nat) (x0 : ByteArray) (y1 : ByteArray) : bodyK UX (cmp_Less_string__cfg k) (cmp_Less_string__G k) Tryd.f135 [.pv (.str x0), .pv (.str y1)] [] cmp_Less_string__dec = cmp_Less_string_ k x0 y1 := by kernel_rfl
theorem cmp_Less_string__con (k : Nat) (x0 : ByteArray) (y1 : ByteArray) (r : Bool) (h : cmp_Less_string_ k x0 y1 = some r) : Con (X := UX) Tryd.prog 135 [.pv (.str x0), .pv (.str y1)] [] (cmp_Less_string__enc r) [] :=
  con_of_body xok tok Tryd.func135 cmp_Less_string__body (cmp_Less_string__gok k) rfl (cmp_Less_string__cok k) (of_decide_eq_true (by kernel_rfl)) cmp_Less_string__dec_enc ((cmp_Less_string__eq k x0 y1).trans h)
noncomputable def cmp_Less_string__an {ρ : Type} (k : Nat) : An UX ρ := fun args bx K =>
popA args fun v1 a2 =>
asS v1 fun x0 =>
popA a2 fun v3 a4 =>
asS v3 fun y1 =>
popN a4 <|
popN bx <|
(cmp_Less_string_ k x0 y1).bind fun r => K (cmp_Less_string__enc r) []
theorem cmp_Less_string__ok {ρ : Type} (k : Nat) : AnsOK Tryd.prog 135 (cmp_Less_string__an (ρ := ρ) k) := by
  intro args bx K r h
  unfold cmp_Less_string__an at h
  replace h := popA_inv h; obtain ⟨v1, a2, rfl, h⟩ := h
  replace h := asS_inv h; obtain ⟨x0, rfl, h⟩ := h
  replace h := popA_inv h; obtain ⟨v3, a4, rfl, h⟩ := h
  replace h := asS_inv h; obtain ⟨y1, rfl, h⟩ := h
  replace h := popN_inv h; obtain ⟨rfl, h⟩ := h
  replace h := popN_inv h; obtain ⟨rfl, h⟩ := h
  replace h := bind_inv h
  obtain ⟨x, hx, h⟩ := h
  exact ⟨there_of Tryd.func135 (by kernel_rfl) cmp_Less_string__body, _, _, h, cmp_Less_string__con k x0 y1 x hx⟩

/-! slices.isNaN[string] -/
noncomputable def slices_isNaN_string__code : Code := match Tryd.f136.body with | some c => c | none => .skip
theorem slices_isNaN_string__body : Tryd.f136.body = some slices_isNaN_string__code := by kernel_rfl
noncomputable def slices_isNaN_string__G {ρ : Type} (k : Nat) : Ans UX ρ := gnil
theorem slices_isNaN_string__gok {ρ : Type} (k : Nat) : GOK Tryd.prog (slices_isNaN_string__G (ρ := ρ) k) := gok_nil
noncomputable def slices_isNaN_string__cfg {ρ : Type} (k : Nat) : Cfg UX ρ where
  live i := (assoc [(0, [0]), (1, [0])] i).getD []
  boxes i := (assoc [(0, []), (1, [])] i).getD []
  tk i := (assoc [] i).getD []
  n := 6
  labelR l := (assoc [] l).getD 0
  loops := assoc []
  labels := assoc []
  joins := assoc []
  xl i e := match e with
    | .nxt => assoc [] i
    | .ret => assoc [] i
    | .exit j => (assoc [] i).bind fun l => assoc l j
    | .goto j => (assoc [] i).bind fun l => assoc l j
noncomputable def slices_isNaN_string__L : List Code := selI [] (loopsOf slices_isNaN_string__code)
noncomputable def slices_isNaN_string__J : List Code := selI [] (joinsOf slices_isNaN_string__code)
noncomputable def slices_isNaN_string__S : List Code := scopesOf slices_isNaN_string__code
theorem slices_isNaN_string__cok {ρ : Type} (k : Nat) : COK (slices_isNaN_string__cfg (ρ := ρ) k) (slices_isNaN_string__G k) slices_isNaN_string__code :=
  cok_of (tl := []) (tj := []) (tb := []) rfl rfl rfl (nil_all (by kernel_rfl)) (nil_all (by kernel_rfl)) (fun p hp => by cases hp)
noncomputable def slices_isNaN_string__enc (r : Bool) : AV UU := .pv (.bool r)
noncomputable def slices_isNaN_string__dec (v : AV UU) (_ : List (List (AV UU))) : Option Bool :=
asB v fun r0 =>
some r0
theorem slices_isNaN_string__dec_enc (v : AV UU) (b : List (List (AV UU))) (r : Bool) (h : slices_isNaN_string__dec v b = some r) : v = slices_isNaN_string__enc r := by
  unfold slices_isNaN_string__dec at h
  replace h := asB_inv h; obtain ⟨r0, rfl, h⟩ := h
  cases h
  rfl
theorem slices_isNaN_string__eq (k : Nat) (x0 : ByteArray) : bodyK UX (slices_isNaN_string__cfg k) (slices_isNaN_string__G k) Tryd.f136 [.pv (.str x0)] [] slices_isNaN_string__dec = slices_isNaN_string_ k x0 := by kernel_rfl
theorem slices_isNaN_string__con (k : Nat) (x0 : ByteArray) (r : Bool) (h : slices_isNaN_string_ k x0 = some r) : Con (X := UX) Tryd.prog 136 [.pv (.str x0)] [] (slices_isNaN_string__enc r) [] :=
  con_of_body xok tok Tryd.func136 slices_isNaN_string__body (slices_isNaN_string__gok k) rfl (slices_isNaN_string__cok k) (of_decide_eq_true (by kernel_rfl)) slices_isNaN_string__dec_enc ((slices_isNaN_string__eq k x0).trans h)
noncomputable def slices_isNaN_string__an {ρ : Type} (k : Nat) : An UX ρ := fun args bx K =>
popA args fun v1 a2 =>
asS v1 fun x0 =>
popN a2 <|
popN bx <|
(slices_isNaN_string_ k x0).bind fun r => K (slices_isNaN_string__enc r) []
theorem slices_isNaN_string__ok {ρ : Type} (k : Nat) : AnsOK Tryd.prog 136 (slices_isNaN_string__an (ρ := ρ) k) := by
  intro args bx K r h
  unfold slices_isNaN_string__an at h
  replace h := popA_inv h; obtain ⟨v1, a2, rfl, h⟩ := h
  replace h := asS_inv h; obtain ⟨x0, rfl, h⟩ := h
  replace h := popN_inv h; obtain ⟨rfl, h⟩ := h
  replace h := popN_inv h; obtain ⟨rfl, h⟩ := h
  replace h := bind_inv h
  obtain ⟨x, hx, h⟩ := h
  exact ⟨there_of Tryd.func136 (by kernel_rfl) slices_isNaN_string__body, _, _, h, slices_isNaN_string__con k x0 x hx⟩

/-! slices.BinarySearch[[]string,string] -/
noncomputable def slices_BinarySearch_string_string__code : Code := match Tryd.f116.body with | some c => c | none => .skip
theorem slices_BinarySearch_string_string__body : Tryd.f116.body = some slices_BinarySearch_string_string__code := by kernel_rfl
noncomputable def slices_BinarySearch_string_string__G {ρ : Type} (k : Nat) : Ans UX ρ := gk 135 (cmp_Less_string__an k) (gk 136 (slices_isNaN_string__an k) (gnil))
theorem slices_BinarySearch_string_string__gok {ρ : Type} (k : Nat) : GOK Tryd.prog (slices_BinarySearch_string_string__G (ρ := ρ) k) := gok_cons (cmp_Less_string__ok k) (gok_cons (slices_isNaN_string__ok k) (gok_nil))
noncomputable def slices_BinarySearch_string_string__l3_s {ρ : Type} (k : Nat) : Run UX ρ := fun s K =>
popS 0 s.env fun v1 e2 =>
as_ls v1 fun x0 =>
popS 1 e2 fun v3 e4 =>
asS v3 fun target1 =>
popS 6 e4 fun v5 e6 =>
asI .i64 v5 fun n6 =>
popS 7 e6 fun v7 e8 =>
asI .i64 v7 fun i7 =>
popS 8 e8 fun v9 e10 =>
asI .i64 v9 fun j8 =>
popN e10 <|
popN s.hp <|
slices_BinarySearch_string_string__l3 k (fun x0 target1 n6 i7 => K (.exit 0) ⟨[(0, .pv (.typ (.ls x0))), (1, .pv (.str target1)), (6, .pv (.int .i64 n6)), (7, .pv (.int .i64 i7))], []⟩) k x0 target1 n6 i7 j8
noncomputable def slices_BinarySearch_string_string__cfg {ρ : Type} (k : Nat) : Cfg UX ρ where
  live i := (assoc [(0, [0, 1]), (1, [0, 1]), (2, [0, 1, 6]), (3, [0, 1, 6, 7, 8]), (4, [0, 1, 6, 7, 8]), (5, [0, 1, 6, 7, 8, 9]), (6, [0, 1, 6, 8, 9]), (7, [0, 1, 6, 7, 9]), (8, [0, 1, 6, 7])] i).getD []
  boxes i := (assoc [(0, []), (1, []), (2, []), (3, []), (4, []), (5, []), (6, []), (7, []), (8, [])] i).getD []
  tk i := (assoc [] i).getD []
  n := 54
  labelR l := (assoc [] l).getD 0
  loops := assoc [(3, slices_BinarySearch_string_string__l3_s k)]
  labels := assoc []
  joins := assoc []
  xl i e := match e with
    | .nxt => assoc [] i
    | .ret => assoc [] i
    | .exit j => (assoc [(3, [(0, ([0, 1, 6, 7], []))])] i).bind fun l => assoc l j
    | .goto j => (assoc [] i).bind fun l => assoc l j
noncomputable def slices_BinarySearch_string_string__L : List Code := selI [3] (loopsOf slices_BinarySearch_string_string__code)
noncomputable def slices_BinarySearch_string_string__J : List Code := selI [] (joinsOf slices_BinarySearch_string_string__code)
noncomputable def slices_BinarySearch_string_string__S : List Code := scopesOf slices_BinarySearch_string_string__code
theorem slices_BinarySearch_string_string__l3_eq0 {ρ : Type} (k : Nat) (K : Ex → St UU → Option ρ) : ∀ (n : Nat) (v : (List ByteArray) × ByteArray × Int × Int × Int), iterK UX (fun s => s.at (slices_BinarySearch_string_string__cfg (ρ := ρ) k).live (slices_BinarySearch_string_string__cfg (ρ := ρ) k).boxes (some 3)) (exec UX (slices_BinarySearch_string_string__cfg k) (slices_BinarySearch_string_string__G k) (slices_BinarySearch_string_string__L.getD 0 .skip)) n ⟨[(0, .pv (.typ (.ls v.1))), (1, .pv (.str v.2.1)), (6, .pv (.int .i64 v.2.2.1)), (7, .pv (.int .i64 v.2.2.2.1)), (8, .pv (.int .i64 v.2.2.2.2))], []⟩ (nrmK UX (slices_BinarySearch_string_string__cfg k) 3 K) = slices_BinarySearch_string_string__l3 k (fun x0 target1 n6 i7 => K (.exit 0) ⟨[(0, .pv (.typ (.ls x0))), (1, .pv (.str target1)), (6, .pv (.int .i64 n6)), (7, .pv (.int .i64 i7))], []⟩) n v.1 v.2.1 v.2.2.1 v.2.2.2.1 v.2.2.2.2 :=
  iter_rec (X := UX) (fun v => ⟨[(0, .pv (.typ (.ls v.1))), (1, .pv (.str v.2.1)), (6, .pv (.int .i64 v.2.2.1)), (7, .pv (.int .i64 v.2.2.2.1)), (8, .pv (.int .i64 v.2.2.2.2))], []⟩) (fun rec v => slices_BinarySearch_string_string__l3_b k (fun x0 target1 n6 i7 => K (.exit 0) ⟨[(0, .pv (.typ (.ls x0))), (1, .pv (.str target1)), (6, .pv (.int .i64 n6)), (7, .pv (.int .i64 i7))], []⟩) (fun x0 target1 n6 i7 j8 => rec (x0, target1, n6, i7, j8)) v.1 v.2.1 v.2.2.1 v.2.2.2.1 v.2.2.2.2) (fun n v => slices_BinarySearch_string_string__l3 k (fun x0 target1 n6 i7 => K (.exit 0) ⟨[(0, .pv (.typ (.ls x0))), (1, .pv (.str target1)), (6, .pv (.int .i64 n6)), (7, .pv (.int .i64 i7))], []⟩) n v.1 v.2.1 v.2.2.1 v.2.2.2.1 v.2.2.2.2) (fun n v => by kernel_rfl) (fun _ => rfl) (fun _ _ => rfl)
theorem slices_BinarySearch_string_string__l3_ok0 {ρ : Type} (k : Nat) : IterOK UX (slices_BinarySearch_string_string__cfg (ρ := ρ) k) (slices_BinarySearch_string_string__G k) (slices_BinarySearch_string_string__L.getD 0 .skip) 3 (slices_BinarySearch_string_string__l3_s k) := by
  intro s K r h
  obtain ⟨env, hp⟩ := s
  unfold slices_BinarySearch_string_string__l3_s at h
  replace h := popS_inv h; obtain ⟨v1, e2, rfl, h⟩ := h
  replace h := as_ls_inv h; obtain ⟨x0, rfl, h⟩ := h
  replace h := popS_inv h; obtain ⟨v3, e4, rfl, h⟩ := h
  replace h := asS_inv h; obtain ⟨target1, rfl, h⟩ := h
  replace h := popS_inv h; obtain ⟨v5, e6, rfl, h⟩ := h
  replace h := asI_inv h; obtain ⟨n6, rfl, h⟩ := h
  replace h := popS_inv h; obtain ⟨v7, e8, rfl, h⟩ := h
  replace h := asI_inv h; obtain ⟨i7, rfl, h⟩ := h
  replace h := popS_inv h; obtain ⟨v9, e10, rfl, h⟩ := h
  replace h := asI_inv h; obtain ⟨j8, rfl, h⟩ := h
  replace h := popN_inv h; obtain ⟨rfl, h⟩ := h
  replace h := popN_inv h; obtain ⟨rfl, h⟩ := h
  exact ⟨k, (slices_BinarySearch_string_string__l3_eq0 k K k (x0, target1, n6, i7, j8)).trans h⟩
theorem slices_BinarySearch_string_string__cok {ρ : Type} (k : Nat) : COK (slices_BinarySearch_string_string__cfg (ρ := ρ) k) (slices_BinarySearch_string_string__G k) slices_BinarySearch_string_string__code :=
  cok_of (tl := [(3, slices_BinarySearch_string_string__l3_s k)]) (tj := []) (tb := []) rfl rfl rfl (all_nth 1 (by kernel_rfl) ⟨iter_case (by kernel_rfl) rfl (slices_BinarySearch_string_string__l3_ok0 k), trivial⟩) (nil_all (by kernel_rfl)) (fun p hp => by cases hp)
noncomputable def slices_BinarySearch_string_string__enc (r : Int × Bool) : AV UU := .pv (.tup [.int .i64 r.1, .bool r.2])
noncomputable def slices_BinarySearch_string_string__dec (v : AV UU) (_ : List (List (AV UU))) : Option (Int × Bool) :=
asT v fun q1 =>
popA q1 fun p2 q3 =>
asI .i64 (.pv p2) fun r0 =>
popA q3 fun p4 q5 =>
asB (.pv p4) fun r1 =>
popN q5 <|
some (r0, r1)
theorem slices_BinarySearch_string_string__dec_enc (v : AV UU) (b : List (List (AV UU))) (r : Int × Bool) (h : slices_BinarySearch_string_string__dec v b = some r) : v = slices_BinarySearch_string_string__enc r := by
  unfold slices_BinarySearch_string_string__dec at h
  replace h := asT_inv h; obtain ⟨q1, rfl, h⟩ := h
  replace h := popA_inv h; obtain ⟨p2, q3, rfl, h⟩ := h
  replace h := asI_inv h; obtain ⟨r0, e, h⟩ := h; cases e
  replace h := popA_inv h; obtain ⟨p4, q5, rfl, h⟩ := h
  replace h := asB_inv h; obtain ⟨r1, e, h⟩ := h; cases e
  replace h := popN_inv h; obtain ⟨rfl, h⟩ := h
  cases h
  rfl
theorem slices_BinarySearch_string_string__eq (k : Nat) (x0 : List ByteArray) (target1 : ByteArray) : bodyK UX (slices_BinarySearch_string_string__cfg k) (slices_BinarySearch_string_string__G k) Tryd.f116 [.pv (.typ (.ls x0)), .pv (.str target1)] [] slices_BinarySearch_string_string__dec = slices_BinarySearch_string_string_ k x0 target1 := by kernel_rfl
theorem slices_BinarySearch_string_string__con (k : Nat) (x0 : List ByteArray) (target1 : ByteArray) (r : Int × Bool) (h : slices_BinarySearch_string_string_ k x0 target1 = some r) : Con (X := UX) Tryd.prog 116 [.pv (.typ (.ls x0)), .pv (.str target1)] [] (slices_BinarySearch_string_string__enc r) [] :=
  con_of_body xok tok Tryd.func116 slices_BinarySearch_string_string__body (slices_BinarySearch_string_string__gok k) rfl (slices_BinarySearch_string_string__cok k) (of_decide_eq_true (by kernel_rfl)) slices_BinarySearch_string_string__dec_enc ((slices_BinarySearch_string_string__eq k x0 target1).trans h)
noncomputable def slices_BinarySearch_string_string__an {ρ : Type} (k : Nat) : An UX ρ := fun args bx K =>
popA args fun v1 a2 =>
as_ls v1 fun x0 =>
popA a2 fun v3 a4 =>
asS v3 fun target1 =>
popN a4 <|
popN bx <|
(slices_BinarySearch_string_string_ k x0 target1).bind fun r => K (slices_BinarySearch_string_string__enc r) []
theorem slices_BinarySearch_string_string__ok {ρ : Type} (k : Nat) : AnsOK Tryd.prog 116 (slices_BinarySearch_string_string__an (ρ := ρ) k) := by
  intro args bx K r h
  unfold slices_BinarySearch_string_string__an at h
  replace h := popA_inv h; obtain ⟨v1, a2, rfl, h⟩ := h
  replace h := as_ls_inv h; obtain ⟨x0, rfl, h⟩ := h
  replace h := popA_inv h; obtain ⟨v3, a4, rfl, h⟩ := h
  replace h := asS_inv h; obtain ⟨target1, rfl, h⟩ := h
  replace h := popN_inv h; obtain ⟨rfl, h⟩ := h
  replace h := popN_inv h; obtain ⟨rfl, h⟩ := h
  replace h := bind_inv h
  obtain ⟨x, hx, h⟩ := h
  exact ⟨there_of Tryd.func116 (by kernel_rfl) slices_BinarySearch_string_string__body, _, _, h, slices_BinarySearch_string_string__con k x0 target1 x hx⟩

/-! cadastre/parse.Name -/
noncomputable def parse_Name_code : Code := match Tryd.f104.body with | some c => c | none => .skip
theorem parse_Name_body : Tryd.f104.body = some parse_Name_code := by kernel_rfl
noncomputable def parse_Name_G {ρ : Type} (k : Nat) : Ans UX ρ := gk 117 (parse_Keys_an k) (gk 116 (slices_BinarySearch_string_string__an k) (gnil))
theorem parse_Name_gok {ρ : Type} (k : Nat) : GOK Tryd.prog (parse_Name_G (ρ := ρ) k) := gok_cons (parse_Keys_ok k) (gok_cons (slices_BinarySearch_string_string__ok k) (gok_nil))
noncomputable def parse_Name_cfg {ρ : Type} (k : Nat) : Cfg UX ρ where
  live i := (assoc [(0, [0]), (1, [0]), (2, [4])] i).getD []
  boxes i := (assoc [(0, []), (1, []), (2, [])] i).getD []
  tk i := (assoc [] i).getD []
  n := 13
  labelR l := (assoc [] l).getD 0
  loops := assoc []
  labels := assoc []
  joins := assoc []
  xl i e := match e with
    | .nxt => assoc [] i
    | .ret => assoc [] i
    | .exit j => (assoc [] i).bind fun l => assoc l j
    | .goto j => (assoc [] i).bind fun l => assoc l j
noncomputable def parse_Name_L : List Code := selI [] (loopsOf parse_Name_code)
noncomputable def parse_Name_J : List Code := selI [] (joinsOf parse_Name_code)
noncomputable def parse_Name_S : List Code := scopesOf parse_Name_code
theorem parse_Name_cok {ρ : Type} (k : Nat) : COK (parse_Name_cfg (ρ := ρ) k) (parse_Name_G k) parse_Name_code :=
  cok_of (tl := []) (tj := []) (tb := []) rfl rfl rfl (nil_all (by kernel_rfl)) (nil_all (by kernel_rfl)) (fun p hp => by cases hp)
noncomputable def parse_Name_enc (r : Bool) : AV UU := .pv (.bool r)
noncomputable def parse_Name_dec (v : AV UU) (_ : List (List (AV UU))) : Option Bool :=
asB v fun r0 =>
some r0
theorem parse_Name_dec_enc (v : AV UU) (b : List (List (AV UU))) (r : Bool) (h : parse_Name_dec v b = some r) : v = parse_Name_enc r := by
  unfold parse_Name_dec at h
  replace h := asB_inv h; obtain ⟨r0, rfl, h⟩ := h
  cases h
  rfl
theorem parse_Name_eq (k : Nat) (s0 : ByteArray) : bodyK UX (parse_Name_cfg k) (parse_Name_G k) Tryd.f104 [.pv (.str s0)] [] parse_Name_dec = parse_Name k s0 := by kernel_rfl
theorem parse_Name_con (k : Nat) (s0 : ByteArray) (r : Bool) (h : parse_Name k s0 = some r) : Con (X := UX) Tryd.prog 104 [.pv (.str s0)] [] (parse_Name_enc r) [] :=
  con_of_body xok tok Tryd.func104 parse_Name_body (parse_Name_gok k) rfl (parse_Name_cok k) (of_decide_eq_true (by kernel_rfl)) parse_Name_dec_enc ((parse_Name_eq k s0).trans h)
noncomputable def parse_Name_an {ρ : Type} (k : Nat) : An UX ρ := fun args bx K =>
popA args fun v1 a2 =>
asS v1 fun s0 =>
popN a2 <|
popN bx <|
(parse_Name k s0).bind fun r => K (parse_Name_enc r) []
theorem parse_Name_ok {ρ : Type} (k : Nat) : AnsOK Tryd.prog 104 (parse_Name_an (ρ := ρ) k) := by
  intro args bx K r h
  unfold parse_Name_an at h
  replace h := popA_inv h; obtain ⟨v1, a2, rfl, h⟩ := h
  replace h := asS_inv h; obtain ⟨s0, rfl, h⟩ := h
  replace h := popN_inv h; obtain ⟨rfl, h⟩ := h
  replace h := popN_inv h; obtain ⟨rfl, h⟩ := h
  replace h := bind_inv h
  obtain ⟨x, hx, h⟩ := h
  exact ⟨there_of Tryd.func104 (by kernel_rfl) parse_Name_body, _, _, h, parse_Name_con k s0 x hx⟩

/-! cadastre/print.Name -/
noncomputable def print_Name_code : Code := match Tryd.f77.body with | some c => c | none => .skip
theorem print_Name_body : Tryd.f77.body = some print_Name_code := by kernel_rfl
noncomputable def print_Name_G {ρ : Type} (k : Nat) : Ans UX ρ := gk 103 (lex_Tokens_an k) (gk 104 (parse_Name_an k) (gnil))
theorem print_Name_gok {ρ : Type} (k : Nat) : GOK Tryd.prog (print_Name_G (ρ := ρ) k) := gok_cons (lex_Tokens_ok k) (gok_cons (parse_Name_ok k) (gok_nil))
noncomputable def print_Name_cfg {ρ : Type} (k : Nat) : Cfg UX ρ where
  live i := (assoc [(0, [0]), (1, [0]), (2, [0, 3, 4])] i).getD []
  boxes i := (assoc [(0, []), (1, []), (2, [])] i).getD []
  tk i := (assoc [] i).getD []
  n := 36
  labelR l := (assoc [] l).getD 0
  loops := assoc []
  labels := assoc []
  joins := assoc []
  xl i e := match e with
    | .nxt => assoc [] i
    | .ret => assoc [] i
    | .exit j => (assoc [] i).bind fun l => assoc l j
    | .goto j => (assoc [] i).bind fun l => assoc l j
noncomputable def print_Name_L : List Code := selI [] (loopsOf print_Name_code)
noncomputable def print_Name_J : List Code := selI [] (joinsOf print_Name_code)
noncomputable def print_Name_S : List Code := scopesOf print_Name_code
theorem print_Name_cok {ρ : Type} (k : Nat) : COK (print_Name_cfg (ρ := ρ) k) (print_Name_G k) print_Name_code :=
  cok_of (tl := []) (tj := []) (tb := []) rfl rfl rfl (nil_all (by kernel_rfl)) (nil_all (by kernel_rfl)) (fun p hp => by cases hp)
noncomputable def print_Name_enc (r : Bool) : AV UU := .pv (.bool r)
noncomputable def print_Name_dec (v : AV UU) (_ : List (List (AV UU))) : Option Bool :=
asB v fun r0 =>
some r0
theorem print_Name_dec_enc (v : AV UU) (b : List (List (AV UU))) (r : Bool) (h : print_Name_dec v b = some r) : v = print_Name_enc r := by
  unfold print_Name_dec at h
  replace h := asB_inv h; obtain ⟨r0, rfl, h⟩ := h
  cases h
  rfl
theorem print_Name_eq (k : Nat) (s0 : ByteArray) : bodyK UX (print_Name_cfg k) (print_Name_G k) Tryd.f77 [.pv (.str s0)] [] print_Name_dec = print_Name k s0 := by kernel_rfl
theorem print_Name_con (k : Nat) (s0 : ByteArray) (r : Bool) (h : print_Name k s0 = some r) : Con (X := UX) Tryd.prog 77 [.pv (.str s0)] [] (print_Name_enc r) [] :=
  con_of_body xok tok Tryd.func77 print_Name_body (print_Name_gok k) rfl (print_Name_cok k) (of_decide_eq_true (by kernel_rfl)) print_Name_dec_enc ((print_Name_eq k s0).trans h)
noncomputable def print_Name_an {ρ : Type} (k : Nat) : An UX ρ := fun args bx K =>
popA args fun v1 a2 =>
asS v1 fun s0 =>
popN a2 <|
popN bx <|
(print_Name k s0).bind fun r => K (print_Name_enc r) []
theorem print_Name_ok {ρ : Type} (k : Nat) : AnsOK Tryd.prog 77 (print_Name_an (ρ := ρ) k) := by
  intro args bx K r h
  unfold print_Name_an at h
  replace h := popA_inv h; obtain ⟨v1, a2, rfl, h⟩ := h
  replace h := asS_inv h; obtain ⟨s0, rfl, h⟩ := h
  replace h := popN_inv h; obtain ⟨rfl, h⟩ := h
  replace h := popN_inv h; obtain ⟨rfl, h⟩ := h
  replace h := bind_inv h
  obtain ⟨x, hx, h⟩ := h
  exact ⟨there_of Tryd.func77 (by kernel_rfl) print_Name_body, _, _, h, print_Name_con k s0 x hx⟩

/-! cadastre/print.one -/
noncomputable def print_one_code : Code := match Tryd.f43.body with | some c => c | none => .skip
theorem print_one_body : Tryd.f43.body = some print_one_code := by kernel_rfl
noncomputable def print_one_G {ρ : Type} (k : Nat) : Ans UX ρ := gk 75 (print_args_an k) (gk 76 (print_literal_an k) (gk 77 (print_Name_an k) (gnil)))
theorem print_one_gok {ρ : Type} (k : Nat) : GOK Tryd.prog (print_one_G (ρ := ρ) k) := gok_cons (print_args_ok k) (gok_cons (print_literal_ok k) (gok_cons (print_Name_ok k) (gok_nil)))
noncomputable def print_one_cfg {ρ : Type} (k : Nat) : Cfg UX ρ where
  live i := (assoc [(0, [0]), (1, [1]), (2, []), (3, [1]), (4, [1, 11]), (5, [1]), (6, [1, 11]), (7, [1]), (8, [1])] i).getD []
  boxes i := (assoc [(0, []), (1, [1]), (2, []), (3, [1]), (4, [1]), (5, [1]), (6, [1]), (7, [1]), (8, [1])] i).getD []
  tk i := (assoc [] i).getD []
  n := 62
  labelR l := (assoc [] l).getD 0
  loops := assoc []
  labels := assoc []
  joins := assoc []
  xl i e := match e with
    | .nxt => assoc [] i
    | .ret => assoc [] i
    | .exit j => (assoc [] i).bind fun l => assoc l j
    | .goto j => (assoc [] i).bind fun l => assoc l j
noncomputable def print_one_L : List Code := selI [] (loopsOf print_one_code)
noncomputable def print_one_J : List Code := selI [] (joinsOf print_one_code)
noncomputable def print_one_S : List Code := scopesOf print_one_code
theorem print_one_cok {ρ : Type} (k : Nat) : COK (print_one_cfg (ρ := ρ) k) (print_one_G k) print_one_code :=
  cok_of (tl := []) (tj := []) (tb := []) rfl rfl rfl (nil_all (by kernel_rfl)) (nil_all (by kernel_rfl)) (fun p hp => by cases hp)
noncomputable def print_one_enc (r : Bool) : AV UU := .pv (.bool r)
noncomputable def print_one_dec (v : AV UU) (_ : List (List (AV UU))) : Option Bool :=
asB v fun r0 =>
some r0
theorem print_one_dec_enc (v : AV UU) (b : List (List (AV UU))) (r : Bool) (h : print_one_dec v b = some r) : v = print_one_enc r := by
  unfold print_one_dec at h
  replace h := asB_inv h; obtain ⟨r0, rfl, h⟩ := h
  cases h
  rfl
theorem print_one_eq (k : Nat) (e0 : S25) : bodyK UX (print_one_cfg k) (print_one_G k) Tryd.f43 [.pv (.typ (.s25 e0))] [] print_one_dec = print_one k e0 := by kernel_rfl
theorem print_one_con (k : Nat) (e0 : S25) (r : Bool) (h : print_one k e0 = some r) : Con (X := UX) Tryd.prog 43 [.pv (.typ (.s25 e0))] [] (print_one_enc r) [] :=
  con_of_body xok tok Tryd.func43 print_one_body (print_one_gok k) rfl (print_one_cok k) (of_decide_eq_true (by kernel_rfl)) print_one_dec_enc ((print_one_eq k e0).trans h)
noncomputable def print_one_an {ρ : Type} (k : Nat) : An UX ρ := fun args bx K =>
popA args fun v1 a2 =>
as_s25 v1 fun e0 =>
popN a2 <|
popN bx <|
(print_one k e0).bind fun r => K (print_one_enc r) []
theorem print_one_ok {ρ : Type} (k : Nat) : AnsOK Tryd.prog 43 (print_one_an (ρ := ρ) k) := by
  intro args bx K r h
  unfold print_one_an at h
  replace h := popA_inv h; obtain ⟨v1, a2, rfl, h⟩ := h
  replace h := as_s25_inv h; obtain ⟨e0, rfl, h⟩ := h
  replace h := popN_inv h; obtain ⟨rfl, h⟩ := h
  replace h := popN_inv h; obtain ⟨rfl, h⟩ := h
  replace h := bind_inv h
  obtain ⟨x, hx, h⟩ := h
  exact ⟨there_of Tryd.func43 (by kernel_rfl) print_one_body, _, _, h, print_one_con k e0 x hx⟩

noncomputable def print_count_code : Code := match Tryd.f27.body with | some c => c | none => .skip
theorem print_count_body : Tryd.f27.body = some print_count_code := by kernel_rfl
noncomputable def print_count_enc (r : Int) : AV UU := .pv (.int .i64 r)
structure print_count_R_ok (rc : print_count_R) : Prop where
  print_count : ∀ (e0 : S25) (high1 : Int) (r : Int), rc.print_count e0 high1 = some r → Con (X := UX) Tryd.prog 27 [.pv (.typ (.s25 e0)), .pv (.int .i64 high1)] [] (print_count_enc r) []
noncomputable def print_count_ran {ρ : Type} (rc : print_count_R) : An UX ρ := fun args bx K =>
popA args fun v1 a2 =>
as_s25 v1 fun e0 =>
popA a2 fun v3 a4 =>
asI .i64 v3 fun high1 =>
popN a4 <|
popN bx <|
(rc.print_count e0 high1).bind fun r => K (print_count_enc r) []
theorem print_count_rok {ρ : Type} (rc : print_count_R) (hrc : print_count_R_ok rc) : AnsOK Tryd.prog 27 (print_count_ran (ρ := ρ) rc) := by
  intro args bx K r h
  unfold print_count_ran at h
  replace h := popA_inv h; obtain ⟨v1, a2, rfl, h⟩ := h
  replace h := as_s25_inv h; obtain ⟨e0, rfl, h⟩ := h
  replace h := popA_inv h; obtain ⟨v3, a4, rfl, h⟩ := h
  replace h := asI_inv h; obtain ⟨high1, rfl, h⟩ := h
  replace h := popN_inv h; obtain ⟨rfl, h⟩ := h
  replace h := popN_inv h; obtain ⟨rfl, h⟩ := h
  replace h := bind_inv h
  obtain ⟨x, hx, h⟩ := h
  exact ⟨there_of Tryd.func27 (by kernel_rfl) print_count_body, _, _, h, hrc.print_count e0 high1 x hx⟩
/-! cadastre/print.count -/
noncomputable def print_count_G {ρ : Type} (k : Nat) (rc : print_count_R) : Ans UX ρ := gk 43 (print_one_an k) (gk 27 (print_count_ran rc) (gnil))
theorem print_count_gok {ρ : Type} (k : Nat) (rc : print_count_R) (hrc : print_count_R_ok rc) : GOK Tryd.prog (print_count_G (ρ := ρ) k rc) := gok_cons (print_one_ok k) (gok_cons (print_count_rok rc hrc) (gok_nil))
noncomputable def print_count_l5_s {ρ : Type} (k : Nat) (rc : print_count_R) : Run UX ρ := fun s K =>
popS 1 s.env fun v1 e2 =>
asI .i64 v1 fun high1 =>
popS 5 e2 fun v3 e4 =>
asI .i64 v3 fun n5 =>
popS 17 e4 fun v5 e6 =>
as_l25 v5 fun t17 =>
popS 18 e6 fun v7 e8 =>
asI .i64 v7 fun t18 =>
popS 19 e8 fun v9 e10 =>
asI .i64 v9 fun t19 =>
popN e10 <|
popN s.hp <|
print_count_l5 k rc (fun t4 => K .ret ⟨[(4, .pv (.int .i64 t4))], []⟩) (fun n5 => K (.exit 0) ⟨[(5, .pv (.int .i64 n5))], []⟩) k high1 n5 t17 t18 t19
noncomputable def print_count_j3_s {ρ : Type} (k : Nat) (rc : print_count_R) : Run UX ρ := fun s K =>
popS 1 s.env fun v1 e2 =>
asI .i64 v1 fun high1 =>
popS 2 e2 fun v3 e4 =>
asP 2 0 v3 <|
popN e4 <|
popB 2 s.hp fun c5 e6 =>
popA c5 fun v7 c8 =>
asI .i64 v7 fun z9 =>
popA c8 fun v10 c11 =>
asI .i64 v10 fun z12 =>
popA c11 fun v13 c14 =>
asI .i64 v13 fun z15 =>
popA c14 fun v16 c17 =>
asS v16 fun z18 =>
popA c17 fun v19 c20 =>
asS v19 fun z21 =>
popA c20 fun v22 c23 =>
asS v22 fun z24 =>
popA c23 fun v25 c26 =>
as_l25 v25 fun z27 =>
popN c26 <|
popN e6 <|
print_count_j3 k rc (fun t4 => K .ret ⟨[(4, .pv (.int .i64 t4))], []⟩) high1 (⟨z9, (⟨z12, z15, z18⟩ : S23), z21, z24, z27⟩ : S25)
noncomputable def print_count_cfg {ρ : Type} (k : Nat) (rc : print_count_R) : Cfg UX ρ where
  live i := (assoc [(0, [0, 1]), (1, [1, 2]), (2, []), (3, [1, 2]), (4, [1, 2, 5]), (5, [1, 5, 17, 18, 19]), (6, [1, 5, 17, 18, 19]), (7, [1, 5, 7, 17, 18, 19]), (8, [1, 5, 8, 17, 18, 19]), (9, []), (10, [1, 5, 8, 17, 18, 19]), (11, [1, 5, 17, 18, 19]), (12, [5])] i).getD []
  boxes i := (assoc [(0, []), (1, [2]), (2, []), (3, [2]), (4, [2]), (5, []), (6, []), (7, [7]), (8, []), (9, []), (10, []), (11, []), (12, [])] i).getD []
  tk i := (assoc [] i).getD []
  n := 34
  labelR l := (assoc [] l).getD 0
  loops := assoc [(5, print_count_l5_s k rc)]
  labels := assoc []
  joins := assoc [(3, print_count_j3_s k rc)]
  xl i e := match e with
    | .nxt => assoc [] i
    | .ret => assoc [(5, ([4], [])), (3, ([4], []))] i
    | .exit j => (assoc [(5, [(0, ([5], []))])] i).bind fun l => assoc l j
    | .goto j => (assoc [] i).bind fun l => assoc l j
noncomputable def print_count_L : List Code := selI [5] (loopsOf print_count_code)
noncomputable def print_count_J : List Code := selI [3] (joinsOf print_count_code)
noncomputable def print_count_S : List Code := scopesOf print_count_code
theorem print_count_l5_eq0 {ρ : Type} (k : Nat) (rc : print_count_R) (K : Ex → St UU → Option ρ) : ∀ (n : Nat) (v : Int × Int × (List T25) × Int × Int), iterK UX (fun s => s.at (print_count_cfg (ρ := ρ) k rc).live (print_count_cfg (ρ := ρ) k rc).boxes (some 5)) (exec UX (print_count_cfg k rc) (print_count_G k rc) (print_count_L.getD 0 .skip)) n ⟨[(1, .pv (.int .i64 v.1)), (5, .pv (.int .i64 v.2.1)), (17, .pv (.typ (.l25 v.2.2.1))), (18, .pv (.int .i64 v.2.2.2.1)), (19, .pv (.int .i64 v.2.2.2.2))], []⟩ (nrmK UX (print_count_cfg k rc) 5 K) = print_count_l5 k rc (fun t4 => K .ret ⟨[(4, .pv (.int .i64 t4))], []⟩) (fun n5 => K (.exit 0) ⟨[(5, .pv (.int .i64 n5))], []⟩) n v.1 v.2.1 v.2.2.1 v.2.2.2.1 v.2.2.2.2 :=
  iter_rec (X := UX) (fun v => ⟨[(1, .pv (.int .i64 v.1)), (5, .pv (.int .i64 v.2.1)), (17, .pv (.typ (.l25 v.2.2.1))), (18, .pv (.int .i64 v.2.2.2.1)), (19, .pv (.int .i64 v.2.2.2.2))], []⟩) (fun rec v => print_count_l5_b k rc (fun t4 => K .ret ⟨[(4, .pv (.int .i64 t4))], []⟩) (fun n5 => K (.exit 0) ⟨[(5, .pv (.int .i64 n5))], []⟩) (fun high1 n5 t17 t18 t19 => rec (high1, n5, t17, t18, t19)) v.1 v.2.1 v.2.2.1 v.2.2.2.1 v.2.2.2.2) (fun n v => print_count_l5 k rc (fun t4 => K .ret ⟨[(4, .pv (.int .i64 t4))], []⟩) (fun n5 => K (.exit 0) ⟨[(5, .pv (.int .i64 n5))], []⟩) n v.1 v.2.1 v.2.2.1 v.2.2.2.1 v.2.2.2.2) (fun n v => by kernel_rfl) (fun _ => rfl) (fun _ _ => rfl)
theorem print_count_l5_ok0 {ρ : Type} (k : Nat) (rc : print_count_R) : IterOK UX (print_count_cfg (ρ := ρ) k rc) (print_count_G k rc) (print_count_L.getD 0 .skip) 5 (print_count_l5_s k rc) := by
  intro s K r h
  obtain ⟨env, hp⟩ := s
  unfold print_count_l5_s at h
  replace h := popS_inv h; obtain ⟨v1, e2, rfl, h⟩ := h
  replace h := asI_inv h; obtain ⟨high1, rfl, h⟩ := h
  replace h := popS_inv h; obtain ⟨v3, e4, rfl, h⟩ := h
  replace h := asI_inv h; obtain ⟨n5, rfl, h⟩ := h
  replace h := popS_inv h; obtain ⟨v5, e6, rfl, h⟩ := h
  replace h := as_l25_inv h; obtain ⟨t17, rfl, h⟩ := h
  replace h := popS_inv h; obtain ⟨v7, e8, rfl, h⟩ := h
  replace h := asI_inv h; obtain ⟨t18, rfl, h⟩ := h
  replace h := popS_inv h; obtain ⟨v9, e10, rfl, h⟩ := h
  replace h := asI_inv h; obtain ⟨t19, rfl, h⟩ := h
  replace h := popN_inv h; obtain ⟨rfl, h⟩ := h
  replace h := popN_inv h; obtain ⟨rfl, h⟩ := h
  exact ⟨k, (print_count_l5_eq0 k rc K k (high1, n5, t17, t18, t19)).trans h⟩
theorem print_count_j3_eq0 {ρ : Type} (k : Nat) (rc : print_count_R) (K : Ex → St UU → Option ρ) (high1 : Int) (e2 : S25) : exec UX (print_count_cfg k rc) (print_count_G k rc) (print_count_J.getD 0 .skip) ⟨[(1, .pv (.int .i64 high1)), (2, .ptr 2 0)], [(2, [.pv (.int .i64 e2.f0), .pv (.int .i64 e2.f1.f0), .pv (.int .i64 e2.f1.f1), .pv (.str e2.f1.f2), .pv (.str e2.f2), .pv (.str e2.f3), .pv (.typ (.l25 e2.f4))])]⟩ (nrmK UX (print_count_cfg k rc) 3 K) = print_count_j3 k rc (fun t4 => K .ret ⟨[(4, .pv (.int .i64 t4))], []⟩) high1 e2 := by kernel_rfl
theorem print_count_j3_ok0 {ρ : Type} (k : Nat) (rc : print_count_R) : JoinOK UX (print_count_cfg (ρ := ρ) k rc) (print_count_G k rc) (print_count_J.getD 0 .skip) 3 (print_count_j3_s k rc) := by
  intro s K r h
  obtain ⟨env, hp⟩ := s
  unfold print_count_j3_s at h
  replace h := popS_inv h; obtain ⟨v1, e2, rfl, h⟩ := h
  replace h := asI_inv h; obtain ⟨high1, rfl, h⟩ := h
  replace h := popS_inv h; obtain ⟨v3, e4, rfl, h⟩ := h
  replace h := asP_inv h; obtain ⟨rfl, h⟩ := h
  replace h := popN_inv h; obtain ⟨rfl, h⟩ := h
  replace h := popB_inv h; obtain ⟨c5, e6, rfl, h⟩ := h
  replace h := popA_inv h; obtain ⟨v7, c8, rfl, h⟩ := h
  replace h := asI_inv h; obtain ⟨z9, rfl, h⟩ := h
  replace h := popA_inv h; obtain ⟨v10, c11, rfl, h⟩ := h
  replace h := asI_inv h; obtain ⟨z12, rfl, h⟩ := h
  replace h := popA_inv h; obtain ⟨v13, c14, rfl, h⟩ := h
  replace h := asI_inv h; obtain ⟨z15, rfl, h⟩ := h
  replace h := popA_inv h; obtain ⟨v16, c17, rfl, h⟩ := h
  replace h := asS_inv h; obtain ⟨z18, rfl, h⟩ := h
  replace h := popA_inv h; obtain ⟨v19, c20, rfl, h⟩ := h
  replace h := asS_inv h; obtain ⟨z21, rfl, h⟩ := h
  replace h := popA_inv h; obtain ⟨v22, c23, rfl, h⟩ := h
  replace h := asS_inv h; obtain ⟨z24, rfl, h⟩ := h
  replace h := popA_inv h; obtain ⟨v25, c26, rfl, h⟩ := h
  replace h := as_l25_inv h; obtain ⟨z27, rfl, h⟩ := h
  replace h := popN_inv h; obtain ⟨rfl, h⟩ := h
  replace h := popN_inv h; obtain ⟨rfl, h⟩ := h
  exact (print_count_j3_eq0 k rc K high1 (⟨z9, (⟨z12, z15, z18⟩ : S23), z21, z24, z27⟩ : S25)).trans h
theorem print_count_cok {ρ : Type} (k : Nat) (rc : print_count_R) : COK (print_count_cfg (ρ := ρ) k rc) (print_count_G k rc) print_count_code :=
  cok_of (tl := [(5, print_count_l5_s k rc)]) (tj := [(3, print_count_j3_s k rc)]) (tb := []) rfl rfl rfl (all_nth 1 (by kernel_rfl) ⟨iter_case (by kernel_rfl) rfl (print_count_l5_ok0 k rc), trivial⟩) (all_nth 1 (by kernel_rfl) ⟨join_case (by kernel_rfl) rfl (print_count_j3_ok0 k rc), trivial⟩) (fun p hp => by cases hp)
noncomputable def print_count_dec (v : AV UU) (_ : List (List (AV UU))) : Option Int :=
asI .i64 v fun r0 =>
some r0
theorem print_count_dec_enc (v : AV UU) (b : List (List (AV UU))) (r : Int) (h : print_count_dec v b = some r) : v = print_count_enc r := by
  unfold print_count_dec at h
  replace h := asI_inv h; obtain ⟨r0, rfl, h⟩ := h
  cases h
  rfl
theorem print_count_eq (k : Nat) (rc : print_count_R) (e0 : S25) (high1 : Int) : bodyK UX (print_count_cfg k rc) (print_count_G k rc) Tryd.f27 [.pv (.typ (.s25 e0)), .pv (.int .i64 high1)] [] print_count_dec = print_count_r k rc e0 high1 := by kernel_rfl
theorem print_count_con_r (k : Nat) (rc : print_count_R) (hrc : print_count_R_ok rc) (e0 : S25) (high1 : Int) (r : Int) (h : print_count_r k rc e0 high1 = some r) : Con (X := UX) Tryd.prog 27 [.pv (.typ (.s25 e0)), .pv (.int .i64 high1)] [] (print_count_enc r) [] :=
  con_of_body xok tok Tryd.func27 print_count_body (print_count_gok k rc hrc) rfl (print_count_cok k rc) (of_decide_eq_true (by kernel_rfl)) print_count_dec_enc ((print_count_eq k rc e0 high1).trans h)
theorem print_count_R_itok (k : Nat) : ∀ d, print_count_R_ok (print_count_R_it k d)
  | 0 => ⟨fun e0 high1 r h => by have e : (none : Option Int) = some r := h; cases e⟩
  | d + 1 => ⟨fun e0 high1 r h => print_count_con_r k (print_count_R_it k d) (print_count_R_itok k d) e0 high1 r h⟩
theorem print_count_con (k : Nat) (e0 : S25) (high1 : Int) (r : Int) (h : print_count k e0 high1 = some r) : Con (X := UX) Tryd.prog 27 [.pv (.typ (.s25 e0)), .pv (.int .i64 high1)] [] (print_count_enc r) [] := (print_count_R_itok k k).print_count e0 high1 r h
noncomputable def print_count_an {ρ : Type} (k : Nat) : An UX ρ := fun args bx K =>
popA args fun v1 a2 =>
as_s25 v1 fun e0 =>
popA a2 fun v3 a4 =>
asI .i64 v3 fun high1 =>
popN a4 <|
popN bx <|
(print_count k e0 high1).bind fun r => K (print_count_enc r) []
theorem print_count_ok {ρ : Type} (k : Nat) : AnsOK Tryd.prog 27 (print_count_an (ρ := ρ) k) := by
  intro args bx K r h
  unfold print_count_an at h
  replace h := popA_inv h; obtain ⟨v1, a2, rfl, h⟩ := h
  replace h := as_s25_inv h; obtain ⟨e0, rfl, h⟩ := h
  replace h := popA_inv h; obtain ⟨v3, a4, rfl, h⟩ := h
  replace h := asI_inv h; obtain ⟨high1, rfl, h⟩ := h
  replace h := popN_inv h; obtain ⟨rfl, h⟩ := h
  replace h := popN_inv h; obtain ⟨rfl, h⟩ := h
  replace h := bind_inv h
  obtain ⟨x, hx, h⟩ := h
  exact ⟨there_of Tryd.func27 (by kernel_rfl) print_count_body, _, _, h, print_count_con k e0 high1 x hx⟩
end Go.Proofs.YtnoeedkbadoogaaDoor.P
