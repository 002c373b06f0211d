/-
  What the program's functions answer: the printed functions' answers.
-/
import Derived.Test.YtekjibpkkgldgaaXG0
namespace Go.Proofs.Ytekjibpkkgldgaa.X
open Go Go.AX
/-! cadastre/lex.blob -/
noncomputable def lex_blob_code : Code := match Try.f86.body with | some c => c | none => .skip
theorem lex_blob_body : Try.f86.body = some lex_blob_code := by kernel_rfl
noncomputable def lex_blob_G {ρ : Type} (k : Nat) : Ans UX ρ := gk 104 (strings_IndexByte_an k) (gk 105 (lex_nibble_an k) (gnil))
theorem lex_blob_gok {ρ : Type} (k : Nat) : GOK Try.prog (lex_blob_G (ρ := ρ) k) := gok_cons (strings_IndexByte_ok k) (gok_cons (lex_nibble_ok k) (gok_nil))
noncomputable def lex_blob_l6_s {ρ : Type} (k : Nat) : Run UX ρ := fun s K =>
popS 0 s.env fun v1 e2 =>
asS v1 fun s0 =>
popS 1 e2 fun v3 e4 =>
asI .i64 v3 fun at1 =>
popS 7 e4 fun v5 e6 =>
asI .i64 v5 fun n7 =>
popS 8 e6 fun v7 e8 =>
asO_li_u8 v7 fun b8 =>
popS 9 e8 fun v9 e10 =>
asI .i64 v9 fun k9 =>
popN e10 <|
popN s.hp <|
lex_blob_l6 k (fun text4 end5 ok6 => K .ret ⟨[(4, .pv (.str text4)), (5, .pv (.int .i64 end5)), (6, .pv (.bool ok6))], []⟩) (fun at1 n7 b8 => K (.exit 0) ⟨[(1, .pv (.int .i64 at1)), (7, .pv (.int .i64 n7)), (8, .own (.li_u8 b8))], []⟩) k s0 at1 n7 b8 k9
noncomputable def lex_blob_j4_s {ρ : Type} (k : Nat) : Run UX ρ := fun s K =>
popS 0 s.env fun v1 e2 =>
asS v1 fun s0 =>
popS 1 e2 fun v3 e4 =>
asI .i64 v3 fun at1 =>
popS 7 e4 fun v5 e6 =>
asI .i64 v5 fun n7 =>
popN e6 <|
popN s.hp <|
lex_blob_j4 k (fun text4 end5 ok6 => K .ret ⟨[(4, .pv (.str text4)), (5, .pv (.int .i64 end5)), (6, .pv (.bool ok6))], []⟩) s0 at1 n7
noncomputable def lex_blob_cfg {ρ : Type} (k : Nat) : Cfg UX ρ where
  live i := (assoc [(0, [0, 1]), (1, [0, 1]), (2, [0, 1, 7]), (3, []), (4, [0, 1, 7]), (5, [0, 1, 7, 8]), (6, [0, 1, 7, 8, 9]), (7, [0, 1, 7, 8, 9]), (8, [0, 1, 7, 8, 9]), (9, [0, 1, 7, 8, 9, 10, 11]), (10, [0, 1, 7, 8, 9, 10, 11, 12, 13]), (11, []), (12, [0, 1, 7, 8, 9, 10, 12]), (13, [1, 7, 8])] i).getD []
  boxes i := (assoc [(0, []), (1, []), (2, []), (3, []), (4, []), (5, []), (6, []), (7, []), (8, []), (9, []), (10, []), (11, []), (12, []), (13, [])] i).getD []
  tk i := (assoc [(1000000, [8])] i).getD []
  n := 67
  labelR l := (assoc [] l).getD 0
  loops := assoc [(6, lex_blob_l6_s k)]
  labels := assoc []
  joins := assoc [(4, lex_blob_j4_s k)]
  xl i e := match e with
    | .nxt => assoc [] i
    | .ret => assoc [(6, ([4, 5, 6], [])), (4, ([4, 5, 6], []))] i
    | .exit j => (assoc [(6, [(0, ([1, 7, 8], []))])] i).bind fun l => assoc l j
    | .goto j => (assoc [] i).bind fun l => assoc l j
noncomputable def lex_blob_L : List Code := selI [6] (loopsOf lex_blob_code)
noncomputable def lex_blob_J : List Code := selI [4] (joinsOf lex_blob_code)
noncomputable def lex_blob_S : List Code := scopesOf lex_blob_code
theorem lex_blob_l6_eq0 {ρ : Type} (k : Nat) (K : Ex → St UU → Option ρ) : ∀ (n : Nat) (v : ByteArray × Int × Int × (List Int) × Int), iterK UX (fun s => s.at (lex_blob_cfg (ρ := ρ) k).live (lex_blob_cfg (ρ := ρ) k).boxes (some 6)) (exec UX (lex_blob_cfg k) (lex_blob_G k) (lex_blob_L.getD 0 .skip)) n ⟨[(0, .pv (.str v.1)), (1, .pv (.int .i64 v.2.1)), (7, .pv (.int .i64 v.2.2.1)), (8, .own (.li_u8 v.2.2.2.1)), (9, .pv (.int .i64 v.2.2.2.2))], []⟩ (nrmK UX (lex_blob_cfg k) 6 K) = lex_blob_l6 k (fun text4 end5 ok6 => K .ret ⟨[(4, .pv (.str text4)), (5, .pv (.int .i64 end5)), (6, .pv (.bool ok6))], []⟩) (fun at1 n7 b8 => K (.exit 0) ⟨[(1, .pv (.int .i64 at1)), (7, .pv (.int .i64 n7)), (8, .own (.li_u8 b8))], []⟩) n v.1 v.2.1 v.2.2.1 v.2.2.2.1 v.2.2.2.2 :=
  iter_rec (X := UX) (fun v => ⟨[(0, .pv (.str v.1)), (1, .pv (.int .i64 v.2.1)), (7, .pv (.int .i64 v.2.2.1)), (8, .own (.li_u8 v.2.2.2.1)), (9, .pv (.int .i64 v.2.2.2.2))], []⟩) (fun rec v => lex_blob_l6_b k (fun text4 end5 ok6 => K .ret ⟨[(4, .pv (.str text4)), (5, .pv (.int .i64 end5)), (6, .pv (.bool ok6))], []⟩) (fun at1 n7 b8 => K (.exit 0) ⟨[(1, .pv (.int .i64 at1)), (7, .pv (.int .i64 n7)), (8, .own (.li_u8 b8))], []⟩) (fun s0 at1 n7 b8 k9 => rec (s0, at1, n7, b8, k9)) v.1 v.2.1 v.2.2.1 v.2.2.2.1 v.2.2.2.2) (fun n v => lex_blob_l6 k (fun text4 end5 ok6 => K .ret ⟨[(4, .pv (.str text4)), (5, .pv (.int .i64 end5)), (6, .pv (.bool ok6))], []⟩) (fun at1 n7 b8 => K (.exit 0) ⟨[(1, .pv (.int .i64 at1)), (7, .pv (.int .i64 n7)), (8, .own (.li_u8 b8))], []⟩) n v.1 v.2.1 v.2.2.1 v.2.2.2.1 v.2.2.2.2) (fun n v => by kernel_rfl) (fun _ => rfl) (fun _ _ => rfl)
theorem lex_blob_l6_ok0 {ρ : Type} (k : Nat) : IterOK UX (lex_blob_cfg (ρ := ρ) k) (lex_blob_G k) (lex_blob_L.getD 0 .skip) 6 (lex_blob_l6_s k) := by
  intro s K r h
  obtain ⟨env, hp⟩ := s
  unfold lex_blob_l6_s at h
  replace h := popS_inv h; obtain ⟨v1, e2, rfl, h⟩ := h
  replace h := asS_inv h; obtain ⟨s0, rfl, h⟩ := h
  replace h := popS_inv h; obtain ⟨v3, e4, rfl, h⟩ := h
  replace h := asI_inv h; obtain ⟨at1, rfl, h⟩ := h
  replace h := popS_inv h; obtain ⟨v5, e6, rfl, h⟩ := h
  replace h := asI_inv h; obtain ⟨n7, rfl, h⟩ := h
  replace h := popS_inv h; obtain ⟨v7, e8, rfl, h⟩ := h
  replace h := asO_li_u8_inv h; obtain ⟨b8, rfl, h⟩ := h
  replace h := popS_inv h; obtain ⟨v9, e10, rfl, h⟩ := h
  replace h := asI_inv h; obtain ⟨k9, rfl, h⟩ := h
  replace h := popN_inv h; obtain ⟨rfl, h⟩ := h
  replace h := popN_inv h; obtain ⟨rfl, h⟩ := h
  exact ⟨k, (lex_blob_l6_eq0 k K k (s0, at1, n7, b8, k9)).trans h⟩
theorem lex_blob_j4_eq0 {ρ : Type} (k : Nat) (K : Ex → St UU → Option ρ) (s0 : ByteArray) (at1 : Int) (n7 : Int) : exec UX (lex_blob_cfg k) (lex_blob_G k) (lex_blob_J.getD 0 .skip) ⟨[(0, .pv (.str s0)), (1, .pv (.int .i64 at1)), (7, .pv (.int .i64 n7))], []⟩ (nrmK UX (lex_blob_cfg k) 4 K) = lex_blob_j4 k (fun text4 end5 ok6 => K .ret ⟨[(4, .pv (.str text4)), (5, .pv (.int .i64 end5)), (6, .pv (.bool ok6))], []⟩) s0 at1 n7 := by kernel_rfl
theorem lex_blob_j4_ok0 {ρ : Type} (k : Nat) : JoinOK UX (lex_blob_cfg (ρ := ρ) k) (lex_blob_G k) (lex_blob_J.getD 0 .skip) 4 (lex_blob_j4_s k) := by
  intro s K r h
  obtain ⟨env, hp⟩ := s
  unfold lex_blob_j4_s at h
  replace h := popS_inv h; obtain ⟨v1, e2, rfl, h⟩ := h
  replace h := asS_inv h; obtain ⟨s0, rfl, h⟩ := h
  replace h := popS_inv h; obtain ⟨v3, e4, rfl, h⟩ := h
  replace h := asI_inv h; obtain ⟨at1, rfl, h⟩ := h
  replace h := popS_inv h; obtain ⟨v5, e6, rfl, h⟩ := h
  replace h := asI_inv h; obtain ⟨n7, rfl, h⟩ := h
  replace h := popN_inv h; obtain ⟨rfl, h⟩ := h
  replace h := popN_inv h; obtain ⟨rfl, h⟩ := h
  exact (lex_blob_j4_eq0 k K s0 at1 n7).trans h
theorem lex_blob_cok {ρ : Type} (k : Nat) : COK (lex_blob_cfg (ρ := ρ) k) (lex_blob_G k) lex_blob_code :=
  cok_of (tl := [(6, lex_blob_l6_s k)]) (tj := [(4, lex_blob_j4_s k)]) (tb := []) rfl rfl rfl (all_nth 1 (by kernel_rfl) ⟨iter_case (by kernel_rfl) rfl (lex_blob_l6_ok0 k), trivial⟩) (all_nth 1 (by kernel_rfl) ⟨join_case (by kernel_rfl) rfl (lex_blob_j4_ok0 k), trivial⟩) (fun p hp => by cases hp)
noncomputable def lex_blob_enc (r : ByteArray × Int × Bool) : AV UU := .pv (.tup [.str r.1, .int .i64 r.2.1, .bool r.2.2])
noncomputable def lex_blob_dec (v : AV UU) (_ : List (List (AV UU))) : Option (ByteArray × Int × Bool) :=
asT v fun q1 =>
popA q1 fun p2 q3 =>
asS (.pv p2) fun r0 =>
popA q3 fun p4 q5 =>
asI .i64 (.pv p4) fun r1 =>
popA q5 fun p6 q7 =>
asB (.pv p6) fun r2 =>
popN q7 <|
some (r0, r1, r2)
theorem lex_blob_dec_enc (v : AV UU) (b : List (List (AV UU))) (r : ByteArray × Int × Bool) (h : lex_blob_dec v b = some r) : v = lex_blob_enc r := by
  unfold lex_blob_dec at h
  replace h := asT_inv h; obtain ⟨q1, rfl, h⟩ := h
  replace h := popA_inv h; obtain ⟨p2, q3, rfl, h⟩ := h
  replace h := asS_inv h; obtain ⟨r0, e, h⟩ := h; cases e
  replace h := popA_inv h; obtain ⟨p4, q5, rfl, h⟩ := h
  replace h := asI_inv h; obtain ⟨r1, e, h⟩ := h; cases e
  replace h := popA_inv h; obtain ⟨p6, q7, rfl, h⟩ := h
  replace h := asB_inv h; obtain ⟨r2, e, h⟩ := h; cases e
  replace h := popN_inv h; obtain ⟨rfl, h⟩ := h
  cases h
  rfl
theorem lex_blob_eq (k : Nat) (s0 : ByteArray) (at1 : Int) : bodyK UX (lex_blob_cfg k) (lex_blob_G k) Try.f86 [.pv (.str s0), .pv (.int .i64 at1)] [] lex_blob_dec = lex_blob k s0 at1 := by kernel_rfl
theorem lex_blob_con (k : Nat) (s0 : ByteArray) (at1 : Int) (r : ByteArray × Int × Bool) (h : lex_blob k s0 at1 = some r) : Con (X := UX) Try.prog 86 [.pv (.str s0), .pv (.int .i64 at1)] [] (lex_blob_enc r) [] :=
  con_of_body xok tok Try.func86 lex_blob_body (lex_blob_gok k) rfl (lex_blob_cok k) (of_decide_eq_true (by kernel_rfl)) lex_blob_dec_enc ((lex_blob_eq k s0 at1).trans h)
noncomputable def lex_blob_an {ρ : Type} (k : Nat) : An UX ρ := fun args bx K =>
popA args fun v1 a2 =>
asS v1 fun s0 =>
popA a2 fun v3 a4 =>
asI .i64 v3 fun at1 =>
popN a4 <|
popN bx <|
(lex_blob k s0 at1).bind fun r => K (lex_blob_enc r) []
theorem lex_blob_ok {ρ : Type} (k : Nat) : AnsOK Try.prog 86 (lex_blob_an (ρ := ρ) k) := by
  intro args bx K r h
  unfold lex_blob_an at h
  replace h := popA_inv h; obtain ⟨v1, a2, rfl, h⟩ := h
  replace h := asS_inv h; obtain ⟨s0, rfl, h⟩ := h
  replace h := popA_inv h; obtain ⟨v3, a4, rfl, h⟩ := h
  replace h := asI_inv h; obtain ⟨at1, rfl, h⟩ := h
  replace h := popN_inv h; obtain ⟨rfl, h⟩ := h
  replace h := popN_inv h; obtain ⟨rfl, h⟩ := h
  replace h := bind_inv h
  obtain ⟨x, hx, h⟩ := h
  exact ⟨there_of Try.func86 (by kernel_rfl) lex_blob_body, _, _, h, lex_blob_con k s0 at1 x hx⟩

/-! cadastre/lex.Small -/
noncomputable def lex_Small_code : Code := match Try.f88.body with | some c => c | none => .skip
theorem lex_Small_body : Try.f88.body = some lex_Small_code := by kernel_rfl
noncomputable def lex_Small_G {ρ : Type} (k : Nat) : Ans UX ρ := gnil
theorem lex_Small_gok {ρ : Type} (k : Nat) : GOK Try.prog (lex_Small_G (ρ := ρ) k) := gok_nil
noncomputable def lex_Small_l3_s {ρ : Type} (k : Nat) : Run UX ρ := fun s K =>
popS 3 s.env fun v1 e2 =>
asO_li_u8 v1 fun b3 =>
popS 8 e2 fun v3 e4 =>
asL 3 v3 <|
popS 9 e4 fun v5 e6 =>
asI .i64 v5 fun t9 =>
popS 10 e6 fun v7 e8 =>
asI .i64 v7 fun t10 =>
popN e8 <|
popN s.hp <|
lex_Small_l3 k (fun b3 => K (.exit 0) ⟨[(3, .own (.li_u8 b3))], []⟩) k b3 t9 t10
noncomputable def lex_Small_cfg {ρ : Type} (k : Nat) : Cfg UX ρ where
  live i := (assoc [(0, [0]), (1, [0]), (2, [3]), (3, [3, 8, 9, 10]), (4, [3, 8, 9, 10]), (5, [3, 4, 5, 8, 9, 10]), (6, [3, 4, 5, 8, 9, 10]), (7, [3, 8, 9, 10]), (8, [3])] i).getD []
  boxes i := (assoc [(0, []), (1, []), (2, []), (3, []), (4, []), (5, []), (6, []), (7, []), (8, [])] i).getD []
  tk i := (assoc [] i).getD []
  n := 30
  labelR l := (assoc [] l).getD 0
  loops := assoc [(3, lex_Small_l3_s k)]
  labels := assoc []
  joins := assoc []
  xl i e := match e with
    | .nxt => assoc [] i
    | .ret => assoc [] i
    | .exit j => (assoc [(3, [(0, ([3], []))])] i).bind fun l => assoc l j
    | .goto j => (assoc [] i).bind fun l => assoc l j
noncomputable def lex_Small_L : List Code := selI [3] (loopsOf lex_Small_code)
noncomputable def lex_Small_J : List Code := selI [] (joinsOf lex_Small_code)
noncomputable def lex_Small_S : List Code := scopesOf lex_Small_code
theorem lex_Small_l3_eq0 {ρ : Type} (k : Nat) (K : Ex → St UU → Option ρ) : ∀ (n : Nat) (v : (List Int) × Int × Int), iterK UX (fun s => s.at (lex_Small_cfg (ρ := ρ) k).live (lex_Small_cfg (ρ := ρ) k).boxes (some 3)) (exec UX (lex_Small_cfg k) (lex_Small_G k) (lex_Small_L.getD 0 .skip)) n ⟨[(3, .own (.li_u8 v.1)), (8, .bor (.slot 3)), (9, .pv (.int .i64 v.2.1)), (10, .pv (.int .i64 v.2.2))], []⟩ (nrmK UX (lex_Small_cfg k) 3 K) = lex_Small_l3 k (fun b3 => K (.exit 0) ⟨[(3, .own (.li_u8 b3))], []⟩) n v.1 v.2.1 v.2.2 :=
  iter_rec (X := UX) (fun v => ⟨[(3, .own (.li_u8 v.1)), (8, .bor (.slot 3)), (9, .pv (.int .i64 v.2.1)), (10, .pv (.int .i64 v.2.2))], []⟩) (fun rec v => lex_Small_l3_b k (fun b3 => K (.exit 0) ⟨[(3, .own (.li_u8 b3))], []⟩) (fun b3 t9 t10 => rec (b3, t9, t10)) v.1 v.2.1 v.2.2) (fun n v => lex_Small_l3 k (fun b3 => K (.exit 0) ⟨[(3, .own (.li_u8 b3))], []⟩) n v.1 v.2.1 v.2.2) (fun n v => by kernel_rfl) (fun _ => rfl) (fun _ _ => rfl)
theorem lex_Small_l3_ok0 {ρ : Type} (k : Nat) : IterOK UX (lex_Small_cfg (ρ := ρ) k) (lex_Small_G k) (lex_Small_L.getD 0 .skip) 3 (lex_Small_l3_s k) := by
  intro s K r h
  obtain ⟨env, hp⟩ := s
  unfold lex_Small_l3_s at h
  replace h := popS_inv h; obtain ⟨v1, e2, rfl, h⟩ := h
  replace h := asO_li_u8_inv h; obtain ⟨b3, rfl, h⟩ := h
  replace h := popS_inv h; obtain ⟨v3, e4, rfl, h⟩ := h
  replace h := asL_inv h; obtain ⟨rfl, h⟩ := h
  replace h := popS_inv h; obtain ⟨v5, e6, rfl, h⟩ := h
  replace h := asI_inv h; obtain ⟨t9, rfl, h⟩ := h
  replace h := popS_inv h; obtain ⟨v7, e8, rfl, h⟩ := h
  replace h := asI_inv h; obtain ⟨t10, rfl, h⟩ := h
  replace h := popN_inv h; obtain ⟨rfl, h⟩ := h
  replace h := popN_inv h; obtain ⟨rfl, h⟩ := h
  exact ⟨k, (lex_Small_l3_eq0 k K k (b3, t9, t10)).trans h⟩
theorem lex_Small_cok {ρ : Type} (k : Nat) : COK (lex_Small_cfg (ρ := ρ) k) (lex_Small_G k) lex_Small_code :=
  cok_of (tl := [(3, lex_Small_l3_s k)]) (tj := []) (tb := []) rfl rfl rfl (all_nth 1 (by kernel_rfl) ⟨iter_case (by kernel_rfl) rfl (lex_Small_l3_ok0 k), trivial⟩) (nil_all (by kernel_rfl)) (fun p hp => by cases hp)
noncomputable def lex_Small_enc (r : ByteArray) : AV UU := .pv (.str r)
noncomputable def lex_Small_dec (v : AV UU) (_ : List (List (AV UU))) : Option ByteArray :=
asS v fun r0 =>
some r0
theorem lex_Small_dec_enc (v : AV UU) (b : List (List (AV UU))) (r : ByteArray) (h : lex_Small_dec v b = some r) : v = lex_Small_enc r := by
  unfold lex_Small_dec at h
  replace h := asS_inv h; obtain ⟨r0, rfl, h⟩ := h
  cases h
  rfl
theorem lex_Small_eq (k : Nat) (s0 : ByteArray) : bodyK UX (lex_Small_cfg k) (lex_Small_G k) Try.f88 [.pv (.str s0)] [] lex_Small_dec = lex_Small k s0 := by kernel_rfl
theorem lex_Small_con (k : Nat) (s0 : ByteArray) (r : ByteArray) (h : lex_Small k s0 = some r) : Con (X := UX) Try.prog 88 [.pv (.str s0)] [] (lex_Small_enc r) [] :=
  con_of_body xok tok Try.func88 lex_Small_body (lex_Small_gok k) rfl (lex_Small_cok k) (of_decide_eq_true (by kernel_rfl)) lex_Small_dec_enc ((lex_Small_eq k s0).trans h)
noncomputable def lex_Small_an {ρ : Type} (k : Nat) : An UX ρ := fun args bx K =>
popA args fun v1 a2 =>
asS v1 fun s0 =>
popN a2 <|
popN bx <|
(lex_Small k s0).bind fun r => K (lex_Small_enc r) []
theorem lex_Small_ok {ρ : Type} (k : Nat) : AnsOK Try.prog 88 (lex_Small_an (ρ := ρ) k) := by
  intro args bx K r h
  unfold lex_Small_an at h
  replace h := popA_inv h; obtain ⟨v1, a2, rfl, h⟩ := h
  replace h := asS_inv h; obtain ⟨s0, rfl, h⟩ := h
  replace h := popN_inv h; obtain ⟨rfl, h⟩ := h
  replace h := popN_inv h; obtain ⟨rfl, h⟩ := h
  replace h := bind_inv h
  obtain ⟨x, hx, h⟩ := h
  exact ⟨there_of Try.func88 (by kernel_rfl) lex_Small_body, _, _, h, lex_Small_con k s0 x hx⟩

/-! cadastre/lex.integer -/
noncomputable def lex_integer_code : Code := match Try.f89.body with | some c => c | none => .skip
theorem lex_integer_body : Try.f89.body = some lex_integer_code := by kernel_rfl
noncomputable def lex_integer_G {ρ : Type} (k : Nat) : Ans UX ρ := gnil
theorem lex_integer_gok {ρ : Type} (k : Nat) : GOK Try.prog (lex_integer_G (ρ := ρ) k) := gok_nil
noncomputable def lex_integer_l2_s {ρ : Type} (k : Nat) : Run UX ρ := fun s K =>
popS 0 s.env fun v1 e2 =>
asS v1 fun s0 =>
popS 2 e2 fun v3 e4 =>
asI .i64 v3 fun n2 =>
popS 7 e4 fun v5 e6 =>
asI .i64 v5 fun t7 =>
popS 8 e6 fun v7 e8 =>
asI .i64 v7 fun t8 =>
popN e8 <|
popN s.hp <|
lex_integer_l2 k (fun n2 ok3 => K .ret ⟨[(2, .pv (.int .i64 n2)), (3, .pv (.bool ok3))], []⟩) (fun n2 => K (.exit 0) ⟨[(2, .pv (.int .i64 n2))], []⟩) k s0 n2 t7 t8
noncomputable def lex_integer_cfg {ρ : Type} (k : Nat) : Cfg UX ρ where
  live i := (assoc [(0, [0]), (1, [0, 2]), (2, [0, 2, 7, 8]), (3, [0, 2, 7, 8]), (4, [0, 2, 4, 7, 8]), (5, [0, 2, 5, 7, 8]), (6, []), (7, [0, 2, 5, 7, 8]), (8, [0, 2, 7, 8]), (9, [2])] i).getD []
  boxes i := (assoc [(0, []), (1, []), (2, []), (3, []), (4, []), (5, []), (6, []), (7, []), (8, []), (9, [])] i).getD []
  tk i := (assoc [] i).getD []
  n := 27
  labelR l := (assoc [] l).getD 0
  loops := assoc [(2, lex_integer_l2_s k)]
  labels := assoc []
  joins := assoc []
  xl i e := match e with
    | .nxt => assoc [] i
    | .ret => assoc [(2, ([2, 3], []))] i
    | .exit j => (assoc [(2, [(0, ([2], []))])] i).bind fun l => assoc l j
    | .goto j => (assoc [] i).bind fun l => assoc l j
noncomputable def lex_integer_L : List Code := selI [2] (loopsOf lex_integer_code)
noncomputable def lex_integer_J : List Code := selI [] (joinsOf lex_integer_code)
noncomputable def lex_integer_S : List Code := scopesOf lex_integer_code
theorem lex_integer_l2_eq0 {ρ : Type} (k : Nat) (K : Ex → St UU → Option ρ) : ∀ (n : Nat) (v : ByteArray × Int × Int × Int), iterK UX (fun s => s.at (lex_integer_cfg (ρ := ρ) k).live (lex_integer_cfg (ρ := ρ) k).boxes (some 2)) (exec UX (lex_integer_cfg k) (lex_integer_G k) (lex_integer_L.getD 0 .skip)) n ⟨[(0, .pv (.str v.1)), (2, .pv (.int .i64 v.2.1)), (7, .pv (.int .i64 v.2.2.1)), (8, .pv (.int .i64 v.2.2.2))], []⟩ (nrmK UX (lex_integer_cfg k) 2 K) = lex_integer_l2 k (fun n2 ok3 => K .ret ⟨[(2, .pv (.int .i64 n2)), (3, .pv (.bool ok3))], []⟩) (fun n2 => K (.exit 0) ⟨[(2, .pv (.int .i64 n2))], []⟩) n v.1 v.2.1 v.2.2.1 v.2.2.2 :=
  iter_rec (X := UX) (fun v => ⟨[(0, .pv (.str v.1)), (2, .pv (.int .i64 v.2.1)), (7, .pv (.int .i64 v.2.2.1)), (8, .pv (.int .i64 v.2.2.2))], []⟩) (fun rec v => lex_integer_l2_b k (fun n2 ok3 => K .ret ⟨[(2, .pv (.int .i64 n2)), (3, .pv (.bool ok3))], []⟩) (fun n2 => K (.exit 0) ⟨[(2, .pv (.int .i64 n2))], []⟩) (fun s0 n2 t7 t8 => rec (s0, n2, t7, t8)) v.1 v.2.1 v.2.2.1 v.2.2.2) (fun n v => lex_integer_l2 k (fun n2 ok3 => K .ret ⟨[(2, .pv (.int .i64 n2)), (3, .pv (.bool ok3))], []⟩) (fun n2 => K (.exit 0) ⟨[(2, .pv (.int .i64 n2))], []⟩) n v.1 v.2.1 v.2.2.1 v.2.2.2) (fun n v => by kernel_rfl) (fun _ => rfl) (fun _ _ => rfl)
theorem lex_integer_l2_ok0 {ρ : Type} (k : Nat) : IterOK UX (lex_integer_cfg (ρ := ρ) k) (lex_integer_G k) (lex_integer_L.getD 0 .skip) 2 (lex_integer_l2_s k) := by
  intro s K r h
  obtain ⟨env, hp⟩ := s
  unfold lex_integer_l2_s at h
  replace h := popS_inv h; obtain ⟨v1, e2, rfl, h⟩ := h
  replace h := asS_inv h; obtain ⟨s0, rfl, h⟩ := h
  replace h := popS_inv h; obtain ⟨v3, e4, rfl, h⟩ := h
  replace h := asI_inv h; obtain ⟨n2, rfl, h⟩ := h
  replace h := popS_inv h; obtain ⟨v5, e6, rfl, h⟩ := h
  replace h := asI_inv h; obtain ⟨t7, rfl, h⟩ := h
  replace h := popS_inv h; obtain ⟨v7, e8, rfl, h⟩ := h
  replace h := asI_inv h; obtain ⟨t8, rfl, h⟩ := h
  replace h := popN_inv h; obtain ⟨rfl, h⟩ := h
  replace h := popN_inv h; obtain ⟨rfl, h⟩ := h
  exact ⟨k, (lex_integer_l2_eq0 k K k (s0, n2, t7, t8)).trans h⟩
theorem lex_integer_cok {ρ : Type} (k : Nat) : COK (lex_integer_cfg (ρ := ρ) k) (lex_integer_G k) lex_integer_code :=
  cok_of (tl := [(2, lex_integer_l2_s k)]) (tj := []) (tb := []) rfl rfl rfl (all_nth 1 (by kernel_rfl) ⟨iter_case (by kernel_rfl) rfl (lex_integer_l2_ok0 k), trivial⟩) (nil_all (by kernel_rfl)) (fun p hp => by cases hp)
noncomputable def lex_integer_enc (r : Int × Bool) : AV UU := .pv (.tup [.int .i64 r.1, .bool r.2])
noncomputable def lex_integer_dec (v : AV UU) (_ : List (List (AV UU))) : Option (Int × Bool) :=
asT v fun q1 =>
popA q1 fun p2 q3 =>
asI .i64 (.pv p2) fun r0 =>
popA q3 fun p4 q5 =>
asB (.pv p4) fun r1 =>
popN q5 <|
some (r0, r1)
theorem lex_integer_dec_enc (v : AV UU) (b : List (List (AV UU))) (r : Int × Bool) (h : lex_integer_dec v b = some r) : v = lex_integer_enc r := by
  unfold lex_integer_dec at h
  replace h := asT_inv h; obtain ⟨q1, rfl, h⟩ := h
  replace h := popA_inv h; obtain ⟨p2, q3, rfl, h⟩ := h
  replace h := asI_inv h; obtain ⟨r0, e, h⟩ := h; cases e
  replace h := popA_inv h; obtain ⟨p4, q5, rfl, h⟩ := h
  replace h := asB_inv h; obtain ⟨r1, e, h⟩ := h; cases e
  replace h := popN_inv h; obtain ⟨rfl, h⟩ := h
  cases h
  rfl
theorem lex_integer_eq (k : Nat) (s0 : ByteArray) : bodyK UX (lex_integer_cfg k) (lex_integer_G k) Try.f89 [.pv (.str s0)] [] lex_integer_dec = lex_integer k s0 := by kernel_rfl
theorem lex_integer_con (k : Nat) (s0 : ByteArray) (r : Int × Bool) (h : lex_integer k s0 = some r) : Con (X := UX) Try.prog 89 [.pv (.str s0)] [] (lex_integer_enc r) [] :=
  con_of_body xok tok Try.func89 lex_integer_body (lex_integer_gok k) rfl (lex_integer_cok k) (of_decide_eq_true (by kernel_rfl)) lex_integer_dec_enc ((lex_integer_eq k s0).trans h)
noncomputable def lex_integer_an {ρ : Type} (k : Nat) : An UX ρ := fun args bx K =>
popA args fun v1 a2 =>
asS v1 fun s0 =>
popN a2 <|
popN bx <|
(lex_integer k s0).bind fun r => K (lex_integer_enc r) []
theorem lex_integer_ok {ρ : Type} (k : Nat) : AnsOK Try.prog 89 (lex_integer_an (ρ := ρ) k) := by
  intro args bx K r h
  unfold lex_integer_an at h
  replace h := popA_inv h; obtain ⟨v1, a2, rfl, h⟩ := h
  replace h := asS_inv h; obtain ⟨s0, rfl, h⟩ := h
  replace h := popN_inv h; obtain ⟨rfl, h⟩ := h
  replace h := popN_inv h; obtain ⟨rfl, h⟩ := h
  replace h := bind_inv h
  obtain ⟨x, hx, h⟩ := h
  exact ⟨there_of Try.func89 (by kernel_rfl) lex_integer_body, _, _, h, lex_integer_con k s0 x hx⟩

/-! cadastre/lex.quoted -/
noncomputable def lex_quoted_code : Code := match Try.f90.body with | some c => c | none => .skip
theorem lex_quoted_body : Try.f90.body = some lex_quoted_code := by kernel_rfl
noncomputable def lex_quoted_G {ρ : Type} (k : Nat) : Ans UX ρ := gnil
theorem lex_quoted_gok {ρ : Type} (k : Nat) : GOK Try.prog (lex_quoted_G (ρ := ρ) k) := gok_nil
noncomputable def lex_quoted_j2_s {ρ : Type} (k : Nat) : Run UX ρ := fun s K =>
popS 0 s.env fun v1 e2 =>
asS v1 fun s0 =>
popS 1 e2 fun v3 e4 =>
asI .i64 v3 fun at1 =>
popS 7 e4 fun v5 e6 =>
asO_li_u8 v5 fun b7 =>
popN e6 <|
popN s.hp <|
lex_quoted_j2 k (fun text4 end5 ok6 => K .ret ⟨[(4, .pv (.str text4)), (5, .pv (.int .i64 end5)), (6, .pv (.bool ok6))], []⟩) (fun s0 at1 b7 => K (.goto 0) ⟨[(0, .pv (.str s0)), (1, .pv (.int .i64 at1)), (7, .own (.li_u8 b7))], []⟩) s0 at1 b7
noncomputable def lex_quoted_g0_s {ρ : Type} (k : Nat) : Run UX ρ := fun s K =>
popS 0 s.env fun v1 e2 =>
asS v1 fun s0 =>
popS 1 e2 fun v3 e4 =>
asI .i64 v3 fun at1 =>
popS 7 e4 fun v5 e6 =>
asO_li_u8 v5 fun b7 =>
popN e6 <|
popN s.hp <|
lex_quoted_g0 k (fun text4 end5 ok6 => K .ret ⟨[(4, .pv (.str text4)), (5, .pv (.int .i64 end5)), (6, .pv (.bool ok6))], []⟩) k s0 at1 b7
noncomputable def lex_quoted_cfg {ρ : Type} (k : Nat) : Cfg UX ρ where
  live i := (assoc [(0, [0, 1]), (1, [0, 1]), (2, [0, 1, 7]), (3, []), (4, [0, 1, 7]), (5, [0, 1, 7]), (6, [0, 1, 7]), (7, [0, 1, 7]), (8, [0, 1, 7]), (9, [0, 1, 7]), (10, [1, 7])] i).getD []
  boxes i := (assoc [(0, []), (1, []), (2, []), (3, []), (4, []), (5, []), (6, []), (7, []), (8, []), (9, []), (10, [])] i).getD []
  tk i := (assoc [(1000000, [7])] i).getD []
  n := 45
  labelR l := (assoc [(0, 2)] l).getD 0
  loops := assoc []
  labels := assoc [(0, lex_quoted_g0_s k)]
  joins := assoc [(2, lex_quoted_j2_s k)]
  xl i e := match e with
    | .nxt => assoc [] i
    | .ret => assoc [(2, ([4, 5, 6], [])), (2, ([4, 5, 6], []))] i
    | .exit j => (assoc [] i).bind fun l => assoc l j
    | .goto j => (assoc [(2, [(0, ([0, 1, 7], []))])] i).bind fun l => assoc l j
noncomputable def lex_quoted_L : List Code := selI [] (loopsOf lex_quoted_code)
noncomputable def lex_quoted_J : List Code := selI [2] (joinsOf lex_quoted_code)
noncomputable def lex_quoted_S : List Code := scopesOf lex_quoted_code
theorem lex_quoted_j2_eq0 {ρ : Type} (k : Nat) (K : Ex → St UU → Option ρ) (s0 : ByteArray) (at1 : Int) (b7 : List Int) : exec UX (lex_quoted_cfg k) (lex_quoted_G k) (lex_quoted_J.getD 0 .skip) ⟨[(0, .pv (.str s0)), (1, .pv (.int .i64 at1)), (7, .own (.li_u8 b7))], []⟩ (nrmK UX (lex_quoted_cfg k) 2 K) = lex_quoted_j2 k (fun text4 end5 ok6 => K .ret ⟨[(4, .pv (.str text4)), (5, .pv (.int .i64 end5)), (6, .pv (.bool ok6))], []⟩) (fun s0 at1 b7 => K (.goto 0) ⟨[(0, .pv (.str s0)), (1, .pv (.int .i64 at1)), (7, .own (.li_u8 b7))], []⟩) s0 at1 b7 := by kernel_rfl
theorem lex_quoted_j2_ok0 {ρ : Type} (k : Nat) : JoinOK UX (lex_quoted_cfg (ρ := ρ) k) (lex_quoted_G k) (lex_quoted_J.getD 0 .skip) 2 (lex_quoted_j2_s k) := by
  intro s K r h
  obtain ⟨env, hp⟩ := s
  unfold lex_quoted_j2_s at h
  replace h := popS_inv h; obtain ⟨v1, e2, rfl, h⟩ := h
  replace h := asS_inv h; obtain ⟨s0, rfl, h⟩ := h
  replace h := popS_inv h; obtain ⟨v3, e4, rfl, h⟩ := h
  replace h := asI_inv h; obtain ⟨at1, rfl, h⟩ := h
  replace h := popS_inv h; obtain ⟨v5, e6, rfl, h⟩ := h
  replace h := asO_li_u8_inv h; obtain ⟨b7, rfl, h⟩ := h
  replace h := popN_inv h; obtain ⟨rfl, h⟩ := h
  replace h := popN_inv h; obtain ⟨rfl, h⟩ := h
  exact (lex_quoted_j2_eq0 k K s0 at1 b7).trans h
noncomputable def lex_quoted_g0_f0 {ρ : Type} (k : Nat) : Run UX ρ := (suff UX (lex_quoted_cfg k) (lex_quoted_G k) (lex_quoted_S.getD 0 .skip) 0).getD fun _ _ => none
theorem lex_quoted_g0_eq0 {ρ : Type} (k : Nat) (K : Ex → St UU → Option ρ) : ∀ (n : Nat) (v : ByteArray × Int × (List Int)), scopeN UX (fun l s => s.at (lex_quoted_cfg (ρ := ρ) k).live (lex_quoted_cfg (ρ := ρ) k).boxes (some ((lex_quoted_cfg (ρ := ρ) k).labelR l))) (suff UX (lex_quoted_cfg k) (lex_quoted_G k) (lex_quoted_S.getD 0 .skip)) (fun l => ((lex_quoted_cfg (ρ := ρ) k).labels l).isSome) n (lex_quoted_g0_f0 k) ⟨[(0, .pv (.str v.1)), (1, .pv (.int .i64 v.2.1)), (7, .own (.li_u8 v.2.2))], []⟩ (nrmK UX (lex_quoted_cfg k) ((lex_quoted_cfg (ρ := ρ) k).labelR 0) K) = lex_quoted_g0 k (fun text4 end5 ok6 => K .ret ⟨[(4, .pv (.str text4)), (5, .pv (.int .i64 end5)), (6, .pv (.bool ok6))], []⟩) n v.1 v.2.1 v.2.2 :=
  scope_rec (X := UX) (fun _ => lex_quoted_g0_f0 k) (fun v => ⟨[(0, .pv (.str v.1)), (1, .pv (.int .i64 v.2.1)), (7, .own (.li_u8 v.2.2))], []⟩) (fun rec v => lex_quoted_g0_b k (fun text4 end5 ok6 => K .ret ⟨[(4, .pv (.str text4)), (5, .pv (.int .i64 end5)), (6, .pv (.bool ok6))], []⟩) (fun s0 at1 b7 => rec (s0, at1, b7)) v.1 v.2.1 v.2.2) (fun n v => lex_quoted_g0 k (fun text4 end5 ok6 => K .ret ⟨[(4, .pv (.str text4)), (5, .pv (.int .i64 end5)), (6, .pv (.bool ok6))], []⟩) n v.1 v.2.1 v.2.2) (fun n v => by kernel_rfl) (fun _ => rfl) (fun _ _ => rfl)
theorem lex_quoted_g0_ok0 {ρ : Type} (k : Nat) : LabOK UX (lex_quoted_cfg (ρ := ρ) k) (lex_quoted_G k) (lex_quoted_S.getD 0 .skip) 0 (lex_quoted_g0_s k) := by
  intro f hf s K r h
  have hf : lex_quoted_g0_f0 k = f := by unfold lex_quoted_g0_f0; rw [hf]; rfl
  subst hf
  obtain ⟨env, hp⟩ := s
  unfold lex_quoted_g0_s at h
  replace h := popS_inv h; obtain ⟨v1, e2, rfl, h⟩ := h
  replace h := asS_inv h; obtain ⟨s0, rfl, h⟩ := h
  replace h := popS_inv h; obtain ⟨v3, e4, rfl, h⟩ := h
  replace h := asI_inv h; obtain ⟨at1, rfl, h⟩ := h
  replace h := popS_inv h; obtain ⟨v5, e6, rfl, h⟩ := h
  replace h := asO_li_u8_inv h; obtain ⟨b7, rfl, h⟩ := h
  replace h := popN_inv h; obtain ⟨rfl, h⟩ := h
  replace h := popN_inv h; obtain ⟨rfl, h⟩ := h
  exact ⟨k, (lex_quoted_g0_eq0 k K k (s0, at1, b7)).trans h⟩
theorem lex_quoted_cok {ρ : Type} (k : Nat) : COK (lex_quoted_cfg (ρ := ρ) k) (lex_quoted_G k) lex_quoted_code :=
  cok_of (tl := []) (tj := [(2, lex_quoted_j2_s k)]) (tb := [(0, lex_quoted_g0_s k)]) rfl rfl rfl (nil_all (by kernel_rfl)) (all_nth 1 (by kernel_rfl) ⟨join_case (by kernel_rfl) rfl (lex_quoted_j2_ok0 k), trivial⟩) (fun p hp => by
    simp only [List.mem_cons, List.not_mem_nil, or_false] at hp
    subst hp
    · exact all_nth 1 (by kernel_rfl) ⟨lex_quoted_g0_ok0 k, trivial⟩)
noncomputable def lex_quoted_enc (r : ByteArray × Int × Bool) : AV UU := .pv (.tup [.str r.1, .int .i64 r.2.1, .bool r.2.2])
noncomputable def lex_quoted_dec (v : AV UU) (_ : List (List (AV UU))) : Option (ByteArray × Int × Bool) :=
asT v fun q1 =>
popA q1 fun p2 q3 =>
asS (.pv p2) fun r0 =>
popA q3 fun p4 q5 =>
asI .i64 (.pv p4) fun r1 =>
popA q5 fun p6 q7 =>
asB (.pv p6) fun r2 =>
popN q7 <|
some (r0, r1, r2)
theorem lex_quoted_dec_enc (v : AV UU) (b : List (List (AV UU))) (r : ByteArray × Int × Bool) (h : lex_quoted_dec v b = some r) : v = lex_quoted_enc r := by
  unfold lex_quoted_dec at h
  replace h := asT_inv h; obtain ⟨q1, rfl, h⟩ := h
  replace h := popA_inv h; obtain ⟨p2, q3, rfl, h⟩ := h
  replace h := asS_inv h; obtain ⟨r0, e, h⟩ := h; cases e
  replace h := popA_inv h; obtain ⟨p4, q5, rfl, h⟩ := h
  replace h := asI_inv h; obtain ⟨r1, e, h⟩ := h; cases e
  replace h := popA_inv h; obtain ⟨p6, q7, rfl, h⟩ := h
  replace h := asB_inv h; obtain ⟨r2, e, h⟩ := h; cases e
  replace h := popN_inv h; obtain ⟨rfl, h⟩ := h
  cases h
  rfl
theorem lex_quoted_eq (k : Nat) (s0 : ByteArray) (at1 : Int) : bodyK UX (lex_quoted_cfg k) (lex_quoted_G k) Try.f90 [.pv (.str s0), .pv (.int .i64 at1)] [] lex_quoted_dec = lex_quoted k s0 at1 := by kernel_rfl
theorem lex_quoted_con (k : Nat) (s0 : ByteArray) (at1 : Int) (r : ByteArray × Int × Bool) (h : lex_quoted k s0 at1 = some r) : Con (X := UX) Try.prog 90 [.pv (.str s0), .pv (.int .i64 at1)] [] (lex_quoted_enc r) [] :=
  con_of_body xok tok Try.func90 lex_quoted_body (lex_quoted_gok k) rfl (lex_quoted_cok k) (of_decide_eq_true (by kernel_rfl)) lex_quoted_dec_enc ((lex_quoted_eq k s0 at1).trans h)
noncomputable def lex_quoted_an {ρ : Type} (k : Nat) : An UX ρ := fun args bx K =>
popA args fun v1 a2 =>
asS v1 fun s0 =>
popA a2 fun v3 a4 =>
asI .i64 v3 fun at1 =>
popN a4 <|
popN bx <|
(lex_quoted k s0 at1).bind fun r => K (lex_quoted_enc r) []
theorem lex_quoted_ok {ρ : Type} (k : Nat) : AnsOK Try.prog 90 (lex_quoted_an (ρ := ρ) k) := by
  intro args bx K r h
  unfold lex_quoted_an at h
  replace h := popA_inv h; obtain ⟨v1, a2, rfl, h⟩ := h
  replace h := asS_inv h; obtain ⟨s0, rfl, h⟩ := h
  replace h := popA_inv h; obtain ⟨v3, a4, rfl, h⟩ := h
  replace h := asI_inv h; obtain ⟨at1, rfl, h⟩ := h
  replace h := popN_inv h; obtain ⟨rfl, h⟩ := h
  replace h := popN_inv h; obtain ⟨rfl, h⟩ := h
  replace h := bind_inv h
  obtain ⟨x, hx, h⟩ := h
  exact ⟨there_of Try.func90 (by kernel_rfl) lex_quoted_body, _, _, h, lex_quoted_con k s0 at1 x hx⟩

/-! cadastre/lex.token$1 -/
noncomputable def lex_token_1_code : Code := match Try.f87.body with | some c => c | none => .skip
theorem lex_token_1_body : Try.f87.body = some lex_token_1_code := by kernel_rfl
noncomputable def lex_token_1_G {ρ : Type} (k : Nat) : Ans UX ρ := gk 83 (lex_letter_an k) (gk 84 (lex_digit_an k) (gnil))
theorem lex_token_1_gok {ρ : Type} (k : Nat) : GOK Try.prog (lex_token_1_G (ρ := ρ) k) := gok_cons (lex_letter_ok k) (gok_cons (lex_digit_ok k) (gok_nil))
noncomputable def lex_token_1_cfg {ρ : Type} (k : Nat) : Cfg UX ρ where
  live i := (assoc [(0, [0]), (1, [0])] i).getD []
  boxes i := (assoc [(0, []), (1, [])] i).getD []
  tk i := (assoc [] i).getD []
  n := 9
  labelR l := (assoc [] l).getD 0
  loops := assoc []
  labels := assoc []
  joins := assoc []
  xl i e := match e with
    | .nxt => assoc [] i
    | .ret => assoc [] i
    | .exit j => (assoc [] i).bind fun l => assoc l j
    | .goto j => (assoc [] i).bind fun l => assoc l j
noncomputable def lex_token_1_L : List Code := selI [] (loopsOf lex_token_1_code)
noncomputable def lex_token_1_J : List Code := selI [] (joinsOf lex_token_1_code)
noncomputable def lex_token_1_S : List Code := scopesOf lex_token_1_code
theorem lex_token_1_cok {ρ : Type} (k : Nat) : COK (lex_token_1_cfg (ρ := ρ) k) (lex_token_1_G k) lex_token_1_code :=
  cok_of (tl := []) (tj := []) (tb := []) rfl rfl rfl (nil_all (by kernel_rfl)) (nil_all (by kernel_rfl)) (fun p hp => by cases hp)
noncomputable def lex_token_1_enc (r : Bool) : AV UU := .pv (.bool r)
noncomputable def lex_token_1_dec (v : AV UU) (_ : List (List (AV UU))) : Option Bool :=
asB v fun r0 =>
some r0
theorem lex_token_1_dec_enc (v : AV UU) (b : List (List (AV UU))) (r : Bool) (h : lex_token_1_dec v b = some r) : v = lex_token_1_enc r := by
  unfold lex_token_1_dec at h
  replace h := asB_inv h; obtain ⟨r0, rfl, h⟩ := h
  cases h
  rfl
theorem lex_token_1_eq (k : Nat) (c0 : Int) : bodyK UX (lex_token_1_cfg k) (lex_token_1_G k) Try.f87 [.pv (.int .u8 c0)] [] lex_token_1_dec = lex_token_1 k c0 := by kernel_rfl
theorem lex_token_1_con (k : Nat) (c0 : Int) (r : Bool) (h : lex_token_1 k c0 = some r) : Con (X := UX) Try.prog 87 [.pv (.int .u8 c0)] [] (lex_token_1_enc r) [] :=
  con_of_body xok tok Try.func87 lex_token_1_body (lex_token_1_gok k) rfl (lex_token_1_cok k) (of_decide_eq_true (by kernel_rfl)) lex_token_1_dec_enc ((lex_token_1_eq k c0).trans h)
noncomputable def lex_token_1_an {ρ : Type} (k : Nat) : An UX ρ := fun args bx K =>
popA args fun v1 a2 =>
asI .u8 v1 fun c0 =>
popN a2 <|
popN bx <|
(lex_token_1 k c0).bind fun r => K (lex_token_1_enc r) []
theorem lex_token_1_ok {ρ : Type} (k : Nat) : AnsOK Try.prog 87 (lex_token_1_an (ρ := ρ) k) := by
  intro args bx K r h
  unfold lex_token_1_an at h
  replace h := popA_inv h; obtain ⟨v1, a2, rfl, h⟩ := h
  replace h := asI_inv h; obtain ⟨c0, rfl, h⟩ := h
  replace h := popN_inv h; obtain ⟨rfl, h⟩ := h
  replace h := popN_inv h; obtain ⟨rfl, h⟩ := h
  replace h := bind_inv h
  obtain ⟨x, hx, h⟩ := h
  exact ⟨there_of Try.func87 (by kernel_rfl) lex_token_1_body, _, _, h, lex_token_1_con k c0 x hx⟩

/-! cadastre/lex.span -/
noncomputable def lex_span_f87_code : Code := match Try.f79.body with | some c => c | none => .skip
theorem lex_span_f87_body : Try.f79.body = some lex_span_f87_code := by kernel_rfl
noncomputable def lex_span_f87_G {ρ : Type} (k : Nat) : Ans UX ρ := gk 87 (lex_token_1_an k) (gnil)
theorem lex_span_f87_gok {ρ : Type} (k : Nat) : GOK Try.prog (lex_span_f87_G (ρ := ρ) k) := gok_cons (lex_token_1_ok k) (gok_nil)
noncomputable def lex_span_f87_l1_s {ρ : Type} (k : Nat) : Run UX ρ := fun s K =>
popS 0 s.env fun v1 e2 =>
asS v1 fun s0 =>
popS 1 e2 fun v3 e4 =>
asI .i64 v3 fun at1 =>
popS 2 e4 fun v5 e6 =>
asF 87 v5 fun fa7 fb8 =>
popN fa7 <|
popN fb8 <|
popN e6 <|
popN s.hp <|
lex_span_f87_l1 k (fun at1 => K (.exit 0) ⟨[(1, .pv (.int .i64 at1))], []⟩) k s0 at1
noncomputable def lex_span_f87_cfg {ρ : Type} (k : Nat) : Cfg UX ρ where
  live i := (assoc [(0, [0, 1, 2]), (1, [0, 1, 2]), (2, [0, 1, 2]), (3, [1])] i).getD []
  boxes i := (assoc [(0, []), (1, []), (2, []), (3, [])] i).getD []
  tk i := (assoc [] i).getD []
  n := 21
  labelR l := (assoc [] l).getD 0
  loops := assoc [(1, lex_span_f87_l1_s k)]
  labels := assoc []
  joins := assoc []
  xl i e := match e with
    | .nxt => assoc [] i
    | .ret => assoc [] i
    | .exit j => (assoc [(1, [(0, ([1], []))])] i).bind fun l => assoc l j
    | .goto j => (assoc [] i).bind fun l => assoc l j
noncomputable def lex_span_f87_L : List Code := selI [1] (loopsOf lex_span_f87_code)
noncomputable def lex_span_f87_J : List Code := selI [] (joinsOf lex_span_f87_code)
noncomputable def lex_span_f87_S : List Code := scopesOf lex_span_f87_code
theorem lex_span_f87_l1_eq0 {ρ : Type} (k : Nat) (K : Ex → St UU → Option ρ) : ∀ (n : Nat) (v : ByteArray × Int), iterK UX (fun s => s.at (lex_span_f87_cfg (ρ := ρ) k).live (lex_span_f87_cfg (ρ := ρ) k).boxes (some 1)) (exec UX (lex_span_f87_cfg k) (lex_span_f87_G k) (lex_span_f87_L.getD 0 .skip)) n ⟨[(0, .pv (.str v.1)), (1, .pv (.int .i64 v.2)), (2, .fn 87 [] [])], []⟩ (nrmK UX (lex_span_f87_cfg k) 1 K) = lex_span_f87_l1 k (fun at1 => K (.exit 0) ⟨[(1, .pv (.int .i64 at1))], []⟩) n v.1 v.2 :=
  iter_rec (X := UX) (fun v => ⟨[(0, .pv (.str v.1)), (1, .pv (.int .i64 v.2)), (2, .fn 87 [] [])], []⟩) (fun rec v => lex_span_f87_l1_b k (fun at1 => K (.exit 0) ⟨[(1, .pv (.int .i64 at1))], []⟩) (fun s0 at1 => rec (s0, at1)) v.1 v.2) (fun n v => lex_span_f87_l1 k (fun at1 => K (.exit 0) ⟨[(1, .pv (.int .i64 at1))], []⟩) n v.1 v.2) (fun n v => by kernel_rfl) (fun _ => rfl) (fun _ _ => rfl)
theorem lex_span_f87_l1_ok0 {ρ : Type} (k : Nat) : IterOK UX (lex_span_f87_cfg (ρ := ρ) k) (lex_span_f87_G k) (lex_span_f87_L.getD 0 .skip) 1 (lex_span_f87_l1_s k) := by
  intro s K r h
  obtain ⟨env, hp⟩ := s
  unfold lex_span_f87_l1_s at h
  replace h := popS_inv h; obtain ⟨v1, e2, rfl, h⟩ := h
  replace h := asS_inv h; obtain ⟨s0, rfl, h⟩ := h
  replace h := popS_inv h; obtain ⟨v3, e4, rfl, h⟩ := h
  replace h := asI_inv h; obtain ⟨at1, rfl, h⟩ := h
  replace h := popS_inv h; obtain ⟨v5, e6, rfl, h⟩ := h
  replace h := asF_inv h; obtain ⟨fa7, fb8, rfl, h⟩ := h
  replace h := popN_inv h; obtain ⟨rfl, h⟩ := h
  replace h := popN_inv h; obtain ⟨rfl, h⟩ := h
  replace h := popN_inv h; obtain ⟨rfl, h⟩ := h
  replace h := popN_inv h; obtain ⟨rfl, h⟩ := h
  exact ⟨k, (lex_span_f87_l1_eq0 k K k (s0, at1)).trans h⟩
theorem lex_span_f87_cok {ρ : Type} (k : Nat) : COK (lex_span_f87_cfg (ρ := ρ) k) (lex_span_f87_G k) lex_span_f87_code :=
  cok_of (tl := [(1, lex_span_f87_l1_s k)]) (tj := []) (tb := []) rfl rfl rfl (all_nth 1 (by kernel_rfl) ⟨iter_case (by kernel_rfl) rfl (lex_span_f87_l1_ok0 k), trivial⟩) (nil_all (by kernel_rfl)) (fun p hp => by cases hp)
noncomputable def lex_span_f87_enc (r : Int) : AV UU := .pv (.int .i64 r)
noncomputable def lex_span_f87_dec (v : AV UU) (_ : List (List (AV UU))) : Option Int :=
asI .i64 v fun r0 =>
some r0
theorem lex_span_f87_dec_enc (v : AV UU) (b : List (List (AV UU))) (r : Int) (h : lex_span_f87_dec v b = some r) : v = lex_span_f87_enc r := by
  unfold lex_span_f87_dec at h
  replace h := asI_inv h; obtain ⟨r0, rfl, h⟩ := h
  cases h
  rfl
theorem lex_span_f87_eq (k : Nat) (s0 : ByteArray) (at1 : Int) : bodyK UX (lex_span_f87_cfg k) (lex_span_f87_G k) Try.f79 [.pv (.str s0), .pv (.int .i64 at1), .fn 87 [] []] [] lex_span_f87_dec = lex_span_f87 k s0 at1 := by kernel_rfl
theorem lex_span_f87_con (k : Nat) (s0 : ByteArray) (at1 : Int) (r : Int) (h : lex_span_f87 k s0 at1 = some r) : Con (X := UX) Try.prog 79 [.pv (.str s0), .pv (.int .i64 at1), .fn 87 [] []] [] (lex_span_f87_enc r) [] :=
  con_of_body xok tok Try.func79 lex_span_f87_body (lex_span_f87_gok k) rfl (lex_span_f87_cok k) (of_decide_eq_true (by kernel_rfl)) lex_span_f87_dec_enc ((lex_span_f87_eq k s0 at1).trans h)
noncomputable def lex_span_f87_an {ρ : Type} (k : Nat) : An UX ρ := fun args bx K =>
popA args fun v1 a2 =>
asS v1 fun s0 =>
popA a2 fun v3 a4 =>
asI .i64 v3 fun at1 =>
popA a4 fun v5 a6 =>
asF 87 v5 fun fa fb =>
popN fa <|
popN fb <|
popN a6 <|
popN bx <|
(lex_span_f87 k s0 at1).bind fun r => K (lex_span_f87_enc r) []
theorem lex_span_f87_ok {ρ : Type} (k : Nat) : AnsOK Try.prog 79 (lex_span_f87_an (ρ := ρ) k) := by
  intro args bx K r h
  unfold lex_span_f87_an at h
  replace h := popA_inv h; obtain ⟨v1, a2, rfl, h⟩ := h
  replace h := asS_inv h; obtain ⟨s0, rfl, h⟩ := h
  replace h := popA_inv h; obtain ⟨v3, a4, rfl, h⟩ := h
  replace h := asI_inv h; obtain ⟨at1, rfl, h⟩ := h
  replace h := popA_inv h; obtain ⟨v5, a6, rfl, h⟩ := h
  replace h := asF_inv h; obtain ⟨fa, fb, rfl, h⟩ := h
  replace h := popN_inv h; obtain ⟨rfl, h⟩ := h
  replace h := popN_inv h; obtain ⟨rfl, h⟩ := h
  replace h := popN_inv h; obtain ⟨rfl, h⟩ := h
  replace h := popN_inv h; obtain ⟨rfl, h⟩ := h
  replace h := bind_inv h
  obtain ⟨x, hx, h⟩ := h
  exact ⟨there_of Try.func79 (by kernel_rfl) lex_span_f87_body, _, _, h, lex_span_f87_con k s0 at1 x hx⟩

/-! cadastre/lex.span -/
noncomputable def lex_span_f84_code : Code := match Try.f79.body with | some c => c | none => .skip
theorem lex_span_f84_body : Try.f79.body = some lex_span_f84_code := by kernel_rfl
noncomputable def lex_span_f84_G {ρ : Type} (k : Nat) : Ans UX ρ := gk 84 (lex_digit_an k) (gnil)
theorem lex_span_f84_gok {ρ : Type} (k : Nat) : GOK Try.prog (lex_span_f84_G (ρ := ρ) k) := gok_cons (lex_digit_ok k) (gok_nil)
noncomputable def lex_span_f84_l1_s {ρ : Type} (k : Nat) : Run UX ρ := fun s K =>
popS 0 s.env fun v1 e2 =>
asS v1 fun s0 =>
popS 1 e2 fun v3 e4 =>
asI .i64 v3 fun at1 =>
popS 2 e4 fun v5 e6 =>
asF 84 v5 fun fa7 fb8 =>
popN fa7 <|
popN fb8 <|
popN e6 <|
popN s.hp <|
lex_span_f84_l1 k (fun at1 => K (.exit 0) ⟨[(1, .pv (.int .i64 at1))], []⟩) k s0 at1
noncomputable def lex_span_f84_cfg {ρ : Type} (k : Nat) : Cfg UX ρ where
  live i := (assoc [(0, [0, 1, 2]), (1, [0, 1, 2]), (2, [0, 1, 2]), (3, [1])] i).getD []
  boxes i := (assoc [(0, []), (1, []), (2, []), (3, [])] i).getD []
  tk i := (assoc [] i).getD []
  n := 21
  labelR l := (assoc [] l).getD 0
  loops := assoc [(1, lex_span_f84_l1_s k)]
  labels := assoc []
  joins := assoc []
  xl i e := match e with
    | .nxt => assoc [] i
    | .ret => assoc [] i
    | .exit j => (assoc [(1, [(0, ([1], []))])] i).bind fun l => assoc l j
    | .goto j => (assoc [] i).bind fun l => assoc l j
noncomputable def lex_span_f84_L : List Code := selI [1] (loopsOf lex_span_f84_code)
noncomputable def lex_span_f84_J : List Code := selI [] (joinsOf lex_span_f84_code)
noncomputable def lex_span_f84_S : List Code := scopesOf lex_span_f84_code
theorem lex_span_f84_l1_eq0 {ρ : Type} (k : Nat) (K : Ex → St UU → Option ρ) : ∀ (n : Nat) (v : ByteArray × Int), iterK UX (fun s => s.at (lex_span_f84_cfg (ρ := ρ) k).live (lex_span_f84_cfg (ρ := ρ) k).boxes (some 1)) (exec UX (lex_span_f84_cfg k) (lex_span_f84_G k) (lex_span_f84_L.getD 0 .skip)) n ⟨[(0, .pv (.str v.1)), (1, .pv (.int .i64 v.2)), (2, .fn 84 [] [])], []⟩ (nrmK UX (lex_span_f84_cfg k) 1 K) = lex_span_f84_l1 k (fun at1 => K (.exit 0) ⟨[(1, .pv (.int .i64 at1))], []⟩) n v.1 v.2 :=
  iter_rec (X := UX) (fun v => ⟨[(0, .pv (.str v.1)), (1, .pv (.int .i64 v.2)), (2, .fn 84 [] [])], []⟩) (fun rec v => lex_span_f84_l1_b k (fun at1 => K (.exit 0) ⟨[(1, .pv (.int .i64 at1))], []⟩) (fun s0 at1 => rec (s0, at1)) v.1 v.2) (fun n v => lex_span_f84_l1 k (fun at1 => K (.exit 0) ⟨[(1, .pv (.int .i64 at1))], []⟩) n v.1 v.2) (fun n v => by kernel_rfl) (fun _ => rfl) (fun _ _ => rfl)
theorem lex_span_f84_l1_ok0 {ρ : Type} (k : Nat) : IterOK UX (lex_span_f84_cfg (ρ := ρ) k) (lex_span_f84_G k) (lex_span_f84_L.getD 0 .skip) 1 (lex_span_f84_l1_s k) := by
  intro s K r h
  obtain ⟨env, hp⟩ := s
  unfold lex_span_f84_l1_s at h
  replace h := popS_inv h; obtain ⟨v1, e2, rfl, h⟩ := h
  replace h := asS_inv h; obtain ⟨s0, rfl, h⟩ := h
  replace h := popS_inv h; obtain ⟨v3, e4, rfl, h⟩ := h
  replace h := asI_inv h; obtain ⟨at1, rfl, h⟩ := h
  replace h := popS_inv h; obtain ⟨v5, e6, rfl, h⟩ := h
  replace h := asF_inv h; obtain ⟨fa7, fb8, rfl, h⟩ := h
  replace h := popN_inv h; obtain ⟨rfl, h⟩ := h
  replace h := popN_inv h; obtain ⟨rfl, h⟩ := h
  replace h := popN_inv h; obtain ⟨rfl, h⟩ := h
  replace h := popN_inv h; obtain ⟨rfl, h⟩ := h
  exact ⟨k, (lex_span_f84_l1_eq0 k K k (s0, at1)).trans h⟩
theorem lex_span_f84_cok {ρ : Type} (k : Nat) : COK (lex_span_f84_cfg (ρ := ρ) k) (lex_span_f84_G k) lex_span_f84_code :=
  cok_of (tl := [(1, lex_span_f84_l1_s k)]) (tj := []) (tb := []) rfl rfl rfl (all_nth 1 (by kernel_rfl) ⟨iter_case (by kernel_rfl) rfl (lex_span_f84_l1_ok0 k), trivial⟩) (nil_all (by kernel_rfl)) (fun p hp => by cases hp)
noncomputable def lex_span_f84_enc (r : Int) : AV UU := .pv (.int .i64 r)
noncomputable def lex_span_f84_dec (v : AV UU) (_ : List (List (AV UU))) : Option Int :=
asI .i64 v fun r0 =>
some r0
theorem lex_span_f84_dec_enc (v : AV UU) (b : List (List (AV UU))) (r : Int) (h : lex_span_f84_dec v b = some r) : v = lex_span_f84_enc r := by
  unfold lex_span_f84_dec at h
  replace h := asI_inv h; obtain ⟨r0, rfl, h⟩ := h
  cases h
  rfl
theorem lex_span_f84_eq (k : Nat) (s0 : ByteArray) (at1 : Int) : bodyK UX (lex_span_f84_cfg k) (lex_span_f84_G k) Try.f79 [.pv (.str s0), .pv (.int .i64 at1), .fn 84 [] []] [] lex_span_f84_dec = lex_span_f84 k s0 at1 := by kernel_rfl
theorem lex_span_f84_con (k : Nat) (s0 : ByteArray) (at1 : Int) (r : Int) (h : lex_span_f84 k s0 at1 = some r) : Con (X := UX) Try.prog 79 [.pv (.str s0), .pv (.int .i64 at1), .fn 84 [] []] [] (lex_span_f84_enc r) [] :=
  con_of_body xok tok Try.func79 lex_span_f84_body (lex_span_f84_gok k) rfl (lex_span_f84_cok k) (of_decide_eq_true (by kernel_rfl)) lex_span_f84_dec_enc ((lex_span_f84_eq k s0 at1).trans h)
noncomputable def lex_span_f84_an {ρ : Type} (k : Nat) : An UX ρ := fun args bx K =>
popA args fun v1 a2 =>
asS v1 fun s0 =>
popA a2 fun v3 a4 =>
asI .i64 v3 fun at1 =>
popA a4 fun v5 a6 =>
asF 84 v5 fun fa fb =>
popN fa <|
popN fb <|
popN a6 <|
popN bx <|
(lex_span_f84 k s0 at1).bind fun r => K (lex_span_f84_enc r) []
theorem lex_span_f84_ok {ρ : Type} (k : Nat) : AnsOK Try.prog 79 (lex_span_f84_an (ρ := ρ) k) := by
  intro args bx K r h
  unfold lex_span_f84_an at h
  replace h := popA_inv h; obtain ⟨v1, a2, rfl, h⟩ := h
  replace h := asS_inv h; obtain ⟨s0, rfl, h⟩ := h
  replace h := popA_inv h; obtain ⟨v3, a4, rfl, h⟩ := h
  replace h := asI_inv h; obtain ⟨at1, rfl, h⟩ := h
  replace h := popA_inv h; obtain ⟨v5, a6, rfl, h⟩ := h
  replace h := asF_inv h; obtain ⟨fa, fb, rfl, h⟩ := h
  replace h := popN_inv h; obtain ⟨rfl, h⟩ := h
  replace h := popN_inv h; obtain ⟨rfl, h⟩ := h
  replace h := popN_inv h; obtain ⟨rfl, h⟩ := h
  replace h := popN_inv h; obtain ⟨rfl, h⟩ := h
  replace h := bind_inv h
  obtain ⟨x, hx, h⟩ := h
  exact ⟨there_of Try.func79 (by kernel_rfl) lex_span_f84_body, _, _, h, lex_span_f84_con k s0 at1 x hx⟩

/-! cadastre/lex.token -/
noncomputable def lex_token_code : Code := match Try.f63.body with | some c => c | none => .skip
theorem lex_token_body : Try.f63.body = some lex_token_code := by kernel_rfl
noncomputable def lex_token_G {ρ : Type} (k : Nat) : Ans UX ρ := gk 86 (lex_blob_an k) (gk 83 (lex_letter_an k) (gk 84 (lex_digit_an k) (gk 85 (lex_mark_an k) (gk 79 (gsel [0, 0, 89] (lex_span_f87_an k) (lex_span_f84_an k)) (gk 88 (lex_Small_an k) (gk 89 (lex_integer_an k) (gk 90 (lex_quoted_an k) (gnil))))))))
theorem lex_token_gok {ρ : Type} (k : Nat) : GOK Try.prog (lex_token_G (ρ := ρ) k) := gok_cons (lex_blob_ok k) (gok_cons (lex_letter_ok k) (gok_cons (lex_digit_ok k) (gok_cons (lex_mark_ok k) (gok_cons (gsel_ok (lex_span_f87_ok k) (lex_span_f84_ok k)) (gok_cons (lex_Small_ok k) (gok_cons (lex_integer_ok k) (gok_cons (lex_quoted_ok k) (gok_nil))))))))
noncomputable def lex_token_j3_s {ρ : Type} (k : Nat) : Run UX ρ := fun s K =>
popS 0 s.env fun v1 e2 =>
asS v1 fun s0 =>
popS 1 e2 fun v3 e4 =>
asI .i64 v3 fun at1 =>
popS 4 e4 fun v5 e6 =>
asP 4 0 v5 <|
popS 7 e6 fun v7 e8 =>
asI .u8 v7 fun c7 =>
popN e8 <|
popB 4 s.hp fun c9 e10 =>
popA c9 fun v11 c12 =>
asI .i64 v11 fun z13 =>
popA c12 fun v14 c15 =>
asS v14 fun z16 =>
popA c15 fun v17 c18 =>
asI .i64 v17 fun z19 =>
popN c18 <|
popN e10 <|
lex_token_j3 k (fun s0 at1 t4 => K (.goto 1) ⟨[(0, .pv (.str s0)), (1, .pv (.int .i64 at1)), (4, .ptr 4 0)], [(4, [.pv (.int .i64 t4.f0), .pv (.str t4.f1), .pv (.int .i64 t4.f2)])]⟩) (fun s0 at1 t4 => K (.goto 2) ⟨[(0, .pv (.str s0)), (1, .pv (.int .i64 at1)), (4, .ptr 4 0)], [(4, [.pv (.int .i64 t4.f0), .pv (.str t4.f1), .pv (.int .i64 t4.f2)])]⟩) (fun s0 at1 t4 => K (.goto 3) ⟨[(0, .pv (.str s0)), (1, .pv (.int .i64 at1)), (4, .ptr 4 0)], [(4, [.pv (.int .i64 t4.f0), .pv (.str t4.f1), .pv (.int .i64 t4.f2)])]⟩) (fun end5 ok6 t4 => K .ret ⟨[(4, .ptr 4 0), (5, .pv (.int .i64 end5)), (6, .pv (.bool ok6))], [(4, [.pv (.int .i64 t4.f0), .pv (.str t4.f1), .pv (.int .i64 t4.f2)])]⟩) s0 at1 c7 (⟨z13, z16, z19⟩ : S68)
noncomputable def lex_token_cfg {ρ : Type} (k : Nat) : Cfg UX ρ where
  live i := (assoc [(0, [0, 1]), (1, [0, 1, 4]), (2, [0, 1, 4, 7]), (3, [0, 1, 4, 7]), (4, [0, 1, 4, 7]), (5, [0, 1, 4, 7]), (6, [0, 1, 4]), (7, [0, 1, 4, 8]), (8, [0, 1, 4, 8]), (9, [1, 4, 8]), (10, [1, 4, 8]), (11, [1, 4, 8]), (12, [4]), (13, [0, 1, 4]), (14, [0, 1, 4]), (15, [4, 5, 6]), (16, [0, 1, 4]), (17, [0, 1, 4, 5]), (18, [0, 1, 4]), (19, [0, 1, 4]), (20, [0, 1, 4, 5]), (21, [4, 5, 6]), (22, [0, 1, 4]), (23, [0, 1, 4]), (24, [4, 5, 6])] i).getD []
  boxes i := (assoc [(0, []), (1, [4]), (2, [4]), (3, [4]), (4, [4]), (5, [4]), (6, [4]), (7, [4]), (8, [4]), (9, [4]), (10, [4]), (11, [4]), (12, [4]), (13, [4]), (14, [4]), (15, [4]), (16, [4]), (17, [4]), (18, [4]), (19, [4]), (20, [4]), (21, [4]), (22, [4]), (23, [4]), (24, [4])] i).getD []
  tk i := (assoc [] i).getD []
  n := 112
  labelR l := (assoc [] l).getD 0
  loops := assoc []
  labels := assoc []
  joins := assoc [(3, lex_token_j3_s k)]
  xl i e := match e with
    | .nxt => assoc [] i
    | .ret => assoc [(3, ([4, 5, 6], [4]))] i
    | .exit j => (assoc [] i).bind fun l => assoc l j
    | .goto j => (assoc [(3, [(1, ([0, 1, 4], [4])), (2, ([0, 1, 4], [4])), (3, ([0, 1, 4], [4]))])] i).bind fun l => assoc l j
noncomputable def lex_token_L : List Code := selI [] (loopsOf lex_token_code)
noncomputable def lex_token_J : List Code := selI [3] (joinsOf lex_token_code)
noncomputable def lex_token_S : List Code := scopesOf lex_token_code
theorem lex_token_j3_eq0 {ρ : Type} (k : Nat) (K : Ex → St UU → Option ρ) (s0 : ByteArray) (at1 : Int) (c7 : Int) (t4 : S68) : exec UX (lex_token_cfg k) (lex_token_G k) (lex_token_J.getD 0 .skip) ⟨[(0, .pv (.str s0)), (1, .pv (.int .i64 at1)), (4, .ptr 4 0), (7, .pv (.int .u8 c7))], [(4, [.pv (.int .i64 t4.f0), .pv (.str t4.f1), .pv (.int .i64 t4.f2)])]⟩ (nrmK UX (lex_token_cfg k) 3 K) = lex_token_j3 k (fun s0 at1 t4 => K (.goto 1) ⟨[(0, .pv (.str s0)), (1, .pv (.int .i64 at1)), (4, .ptr 4 0)], [(4, [.pv (.int .i64 t4.f0), .pv (.str t4.f1), .pv (.int .i64 t4.f2)])]⟩) (fun s0 at1 t4 => K (.goto 2) ⟨[(0, .pv (.str s0)), (1, .pv (.int .i64 at1)), (4, .ptr 4 0)], [(4, [.pv (.int .i64 t4.f0), .pv (.str t4.f1), .pv (.int .i64 t4.f2)])]⟩) (fun s0 at1 t4 => K (.goto 3) ⟨[(0, .pv (.str s0)), (1, .pv (.int .i64 at1)), (4, .ptr 4 0)], [(4, [.pv (.int .i64 t4.f0), .pv (.str t4.f1), .pv (.int .i64 t4.f2)])]⟩) (fun end5 ok6 t4 => K .ret ⟨[(4, .ptr 4 0), (5, .pv (.int .i64 end5)), (6, .pv (.bool ok6))], [(4, [.pv (.int .i64 t4.f0), .pv (.str t4.f1), .pv (.int .i64 t4.f2)])]⟩) s0 at1 c7 t4 := by kernel_rfl
theorem lex_token_j3_ok0 {ρ : Type} (k : Nat) : JoinOK UX (lex_token_cfg (ρ := ρ) k) (lex_token_G k) (lex_token_J.getD 0 .skip) 3 (lex_token_j3_s k) := by
  intro s K r h
  obtain ⟨env, hp⟩ := s
  unfold lex_token_j3_s at h
  replace h := popS_inv h; obtain ⟨v1, e2, rfl, h⟩ := h
  replace h := asS_inv h; obtain ⟨s0, rfl, h⟩ := h
  replace h := popS_inv h; obtain ⟨v3, e4, rfl, h⟩ := h
  replace h := asI_inv h; obtain ⟨at1, rfl, h⟩ := h
  replace h := popS_inv h; obtain ⟨v5, e6, rfl, h⟩ := h
  replace h := asP_inv h; obtain ⟨rfl, h⟩ := h
  replace h := popS_inv h; obtain ⟨v7, e8, rfl, h⟩ := h
  replace h := asI_inv h; obtain ⟨c7, rfl, h⟩ := h
  replace h := popN_inv h; obtain ⟨rfl, h⟩ := h
  replace h := popB_inv h; obtain ⟨c9, e10, rfl, h⟩ := h
  replace h := popA_inv h; obtain ⟨v11, c12, rfl, h⟩ := h
  replace h := asI_inv h; obtain ⟨z13, rfl, h⟩ := h
  replace h := popA_inv h; obtain ⟨v14, c15, rfl, h⟩ := h
  replace h := asS_inv h; obtain ⟨z16, rfl, h⟩ := h
  replace h := popA_inv h; obtain ⟨v17, c18, rfl, h⟩ := h
  replace h := asI_inv h; obtain ⟨z19, rfl, h⟩ := h
  replace h := popN_inv h; obtain ⟨rfl, h⟩ := h
  replace h := popN_inv h; obtain ⟨rfl, h⟩ := h
  exact (lex_token_j3_eq0 k K s0 at1 c7 (⟨z13, z16, z19⟩ : S68)).trans h
theorem lex_token_cok {ρ : Type} (k : Nat) : COK (lex_token_cfg (ρ := ρ) k) (lex_token_G k) lex_token_code :=
  cok_of (tl := []) (tj := [(3, lex_token_j3_s k)]) (tb := []) rfl rfl rfl (nil_all (by kernel_rfl)) (all_nth 1 (by kernel_rfl) ⟨join_case (by kernel_rfl) rfl (lex_token_j3_ok0 k), trivial⟩) (fun p hp => by cases hp)
noncomputable def lex_token_enc (r : S68 × Int × Bool) : AV UU := .pv (.tup [.typ (.s68 r.1), .int .i64 r.2.1, .bool r.2.2])
noncomputable def lex_token_dec (v : AV UU) (_ : List (List (AV UU))) : Option (S68 × Int × Bool) :=
asT v fun q1 =>
popA q1 fun p2 q3 =>
as_s68 (.pv p2) fun r0 =>
popA q3 fun p4 q5 =>
asI .i64 (.pv p4) fun r1 =>
popA q5 fun p6 q7 =>
asB (.pv p6) fun r2 =>
popN q7 <|
some (r0, r1, r2)
theorem lex_token_dec_enc (v : AV UU) (b : List (List (AV UU))) (r : S68 × Int × Bool) (h : lex_token_dec v b = some r) : v = lex_token_enc r := by
  unfold lex_token_dec at h
  replace h := asT_inv h; obtain ⟨q1, rfl, h⟩ := h
  replace h := popA_inv h; obtain ⟨p2, q3, rfl, h⟩ := h
  replace h := as_s68_inv h; obtain ⟨r0, e, h⟩ := h; cases e
  replace h := popA_inv h; obtain ⟨p4, q5, rfl, h⟩ := h
  replace h := asI_inv h; obtain ⟨r1, e, h⟩ := h; cases e
  replace h := popA_inv h; obtain ⟨p6, q7, rfl, h⟩ := h
  replace h := asB_inv h; obtain ⟨r2, e, h⟩ := h; cases e
  replace h := popN_inv h; obtain ⟨rfl, h⟩ := h
  cases h
  rfl
theorem lex_token_eq (k : Nat) (s0 : ByteArray) (at1 : Int) : bodyK UX (lex_token_cfg k) (lex_token_G k) Try.f63 [.pv (.str s0), .pv (.int .i64 at1)] [] lex_token_dec = lex_token k s0 at1 := by kernel_rfl
theorem lex_token_con (k : Nat) (s0 : ByteArray) (at1 : Int) (r : S68 × Int × Bool) (h : lex_token k s0 at1 = some r) : Con (X := UX) Try.prog 63 [.pv (.str s0), .pv (.int .i64 at1)] [] (lex_token_enc r) [] :=
  con_of_body xok tok Try.func63 lex_token_body (lex_token_gok k) rfl (lex_token_cok k) (of_decide_eq_true (by kernel_rfl)) lex_token_dec_enc ((lex_token_eq k s0 at1).trans h)
noncomputable def lex_token_an {ρ : Type} (k : Nat) : An UX ρ := fun args bx K =>
popA args fun v1 a2 =>
asS v1 fun s0 =>
popA a2 fun v3 a4 =>
asI .i64 v3 fun at1 =>
popN a4 <|
popN bx <|
(lex_token k s0 at1).bind fun r => K (lex_token_enc r) []
theorem lex_token_ok {ρ : Type} (k : Nat) : AnsOK Try.prog 63 (lex_token_an (ρ := ρ) k) := by
  intro args bx K r h
  unfold lex_token_an at h
  replace h := popA_inv h; obtain ⟨v1, a2, rfl, h⟩ := h
  replace h := asS_inv h; obtain ⟨s0, rfl, h⟩ := h
  replace h := popA_inv h; obtain ⟨v3, a4, rfl, h⟩ := h
  replace h := asI_inv h; obtain ⟨at1, rfl, h⟩ := h
  replace h := popN_inv h; obtain ⟨rfl, h⟩ := h
  replace h := popN_inv h; obtain ⟨rfl, h⟩ := h
  replace h := bind_inv h
  obtain ⟨x, hx, h⟩ := h
  exact ⟨there_of Try.func63 (by kernel_rfl) lex_token_body, _, _, h, lex_token_con k s0 at1 x hx⟩

/-! cadastre/lex.long -/
noncomputable def lex_long_code : Code := match Try.f64.body with | some c => c | none => .skip
theorem lex_long_body : Try.f64.body = some lex_long_code := by kernel_rfl
noncomputable def lex_long_G {ρ : Type} (k : Nat) : Ans UX ρ := gnil
theorem lex_long_gok {ρ : Type} (k : Nat) : GOK Try.prog (lex_long_G (ρ := ρ) k) := gok_nil
noncomputable def lex_long_cfg {ρ : Type} (k : Nat) : Cfg UX ρ where
  live i := (assoc [(0, [0]), (1, [1]), (2, [1]), (3, [1])] i).getD []
  boxes i := (assoc [(0, []), (1, [1]), (2, [1]), (3, [1])] i).getD []
  tk i := (assoc [] i).getD []
  n := 14
  labelR l := (assoc [] l).getD 0
  loops := assoc []
  labels := assoc []
  joins := assoc []
  xl i e := match e with
    | .nxt => assoc [] i
    | .ret => assoc [] i
    | .exit j => (assoc [] i).bind fun l => assoc l j
    | .goto j => (assoc [] i).bind fun l => assoc l j
noncomputable def lex_long_L : List Code := selI [] (loopsOf lex_long_code)
noncomputable def lex_long_J : List Code := selI [] (joinsOf lex_long_code)
noncomputable def lex_long_S : List Code := scopesOf lex_long_code
theorem lex_long_cok {ρ : Type} (k : Nat) : COK (lex_long_cfg (ρ := ρ) k) (lex_long_G k) lex_long_code :=
  cok_of (tl := []) (tj := []) (tb := []) rfl rfl rfl (nil_all (by kernel_rfl)) (nil_all (by kernel_rfl)) (fun p hp => by cases hp)
noncomputable def lex_long_enc (r : Bool) : AV UU := .pv (.bool r)
noncomputable def lex_long_dec (v : AV UU) (_ : List (List (AV UU))) : Option Bool :=
asB v fun r0 =>
some r0
theorem lex_long_dec_enc (v : AV UU) (b : List (List (AV UU))) (r : Bool) (h : lex_long_dec v b = some r) : v = lex_long_enc r := by
  unfold lex_long_dec at h
  replace h := asB_inv h; obtain ⟨r0, rfl, h⟩ := h
  cases h
  rfl
theorem lex_long_eq (k : Nat) (t0 : S68) : bodyK UX (lex_long_cfg k) (lex_long_G k) Try.f64 [.pv (.typ (.s68 t0))] [] lex_long_dec = lex_long k t0 := by kernel_rfl
theorem lex_long_con (k : Nat) (t0 : S68) (r : Bool) (h : lex_long k t0 = some r) : Con (X := UX) Try.prog 64 [.pv (.typ (.s68 t0))] [] (lex_long_enc r) [] :=
  con_of_body xok tok Try.func64 lex_long_body (lex_long_gok k) rfl (lex_long_cok k) (of_decide_eq_true (by kernel_rfl)) lex_long_dec_enc ((lex_long_eq k t0).trans h)
noncomputable def lex_long_an {ρ : Type} (k : Nat) : An UX ρ := fun args bx K =>
popA args fun v1 a2 =>
as_s68 v1 fun t0 =>
popN a2 <|
popN bx <|
(lex_long k t0).bind fun r => K (lex_long_enc r) []
theorem lex_long_ok {ρ : Type} (k : Nat) : AnsOK Try.prog 64 (lex_long_an (ρ := ρ) k) := by
  intro args bx K r h
  unfold lex_long_an at h
  replace h := popA_inv h; obtain ⟨v1, a2, rfl, h⟩ := h
  replace h := as_s68_inv h; obtain ⟨t0, rfl, h⟩ := h
  replace h := popN_inv h; obtain ⟨rfl, h⟩ := h
  replace h := popN_inv h; obtain ⟨rfl, h⟩ := h
  replace h := bind_inv h
  obtain ⟨x, hx, h⟩ := h
  exact ⟨there_of Try.func64 (by kernel_rfl) lex_long_body, _, _, h, lex_long_con k t0 x hx⟩
end Go.Proofs.Ytekjibpkkgldgaa.X
