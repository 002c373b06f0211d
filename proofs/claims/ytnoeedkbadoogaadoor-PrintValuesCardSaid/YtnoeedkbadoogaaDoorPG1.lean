/-
  What the program's functions answer: the printed functions' answers.
-/
import Derived.Test.YtnoeedkbadoogaaDoorPG0
namespace Go.Proofs.YtnoeedkbadoogaaDoor.P
open Go Go.AX
/-! strings.IndexByte -/
noncomputable def strings_IndexByte_code : Code := match Tryd.f140.body with | some c => c | none => .skip
theorem strings_IndexByte_body : Tryd.f140.body = some strings_IndexByte_code := by kernel_rfl
noncomputable def strings_IndexByte_G {ρ : Type} (k : Nat) : Ans UX ρ := gk 143 (stringslite_IndexByte_an k) (gnil)
theorem strings_IndexByte_gok {ρ : Type} (k : Nat) : GOK Tryd.prog (strings_IndexByte_G (ρ := ρ) k) := gok_cons (stringslite_IndexByte_ok k) (gok_nil)
noncomputable def strings_IndexByte_cfg {ρ : Type} (k : Nat) : Cfg UX ρ where
  live i := (assoc [(0, [0, 1]), (1, [0, 1])] i).getD []
  boxes i := (assoc [(0, []), (1, [])] i).getD []
  tk i := (assoc [] i).getD []
  n := 8
  labelR l := (assoc [] l).getD 0
  loops := assoc []
  labels := assoc []
  joins := assoc []
  xl i e := match e with
    | .nxt => assoc [] i
    | .ret => assoc [] i
    | .exit j => (assoc [] i).bind fun l => assoc l j
    | .goto j => (assoc [] i).bind fun l => assoc l j
noncomputable def strings_IndexByte_L : List Code := selI [] (loopsOf strings_IndexByte_code)
noncomputable def strings_IndexByte_J : List Code := selI [] (joinsOf strings_IndexByte_code)
noncomputable def strings_IndexByte_S : List Code := scopesOf strings_IndexByte_code
theorem strings_IndexByte_cok {ρ : Type} (k : Nat) : COK (strings_IndexByte_cfg (ρ := ρ) k) (strings_IndexByte_G k) strings_IndexByte_code :=
  cok_of (tl := []) (tj := []) (tb := []) rfl rfl rfl (nil_all (by kernel_rfl)) (nil_all (by kernel_rfl)) (fun p hp => by cases hp)
noncomputable def strings_IndexByte_enc (r : Int) : AV UU := .pv (.int .i64 r)
noncomputable def strings_IndexByte_dec (v : AV UU) (_ : List (List (AV UU))) : Option Int :=
asI .i64 v fun r0 =>
some r0
theorem strings_IndexByte_dec_enc (v : AV UU) (b : List (List (AV UU))) (r : Int) (h : strings_IndexByte_dec v b = some r) : v = strings_IndexByte_enc r := by
  unfold strings_IndexByte_dec at h
  replace h := asI_inv h; obtain ⟨r0, rfl, h⟩ := h
  cases h
  rfl
theorem strings_IndexByte_eq (k : Nat) (s0 : ByteArray) (c1 : Int) : bodyK UX (strings_IndexByte_cfg k) (strings_IndexByte_G k) Tryd.f140 [.pv (.str s0), .pv (.int .u8 c1)] [] strings_IndexByte_dec = strings_IndexByte k s0 c1 := by kernel_rfl
theorem strings_IndexByte_con (k : Nat) (s0 : ByteArray) (c1 : Int) (r : Int) (h : strings_IndexByte k s0 c1 = some r) : Con (X := UX) Tryd.prog 140 [.pv (.str s0), .pv (.int .u8 c1)] [] (strings_IndexByte_enc r) [] :=
  con_of_body xok tok Tryd.func140 strings_IndexByte_body (strings_IndexByte_gok k) rfl (strings_IndexByte_cok k) (of_decide_eq_true (by kernel_rfl)) strings_IndexByte_dec_enc ((strings_IndexByte_eq k s0 c1).trans h)
noncomputable def strings_IndexByte_an {ρ : Type} (k : Nat) : An UX ρ := fun args bx K =>
popA args fun v1 a2 =>
asS v1 fun s0 =>
popA a2 fun v3 a4 =>
asI .u8 v3 fun c1 =>
popN a4 <|
popN bx <|
(strings_IndexByte k s0 c1).bind fun r => K (strings_IndexByte_enc r) []
theorem strings_IndexByte_ok {ρ : Type} (k : Nat) : AnsOK Tryd.prog 140 (strings_IndexByte_an (ρ := ρ) k) := by
  intro args bx K r h
  unfold strings_IndexByte_an at h
  replace h := popA_inv h; obtain ⟨v1, a2, rfl, h⟩ := h
  replace h := asS_inv h; obtain ⟨s0, rfl, h⟩ := h
  replace h := popA_inv h; obtain ⟨v3, a4, rfl, h⟩ := h
  replace h := asI_inv h; obtain ⟨c1, rfl, h⟩ := h
  replace h := popN_inv h; obtain ⟨rfl, h⟩ := h
  replace h := popN_inv h; obtain ⟨rfl, h⟩ := h
  replace h := bind_inv h
  obtain ⟨x, hx, h⟩ := h
  exact ⟨there_of Tryd.func140 (by kernel_rfl) strings_IndexByte_body, _, _, h, strings_IndexByte_con k s0 c1 x hx⟩

/-! cadastre/lex.mark -/
noncomputable def lex_mark_code : Code := match Tryd.f129.body with | some c => c | none => .skip
theorem lex_mark_body : Tryd.f129.body = some lex_mark_code := by kernel_rfl
noncomputable def lex_mark_G {ρ : Type} (k : Nat) : Ans UX ρ := gk 140 (strings_IndexByte_an k) (gnil)
theorem lex_mark_gok {ρ : Type} (k : Nat) : GOK Tryd.prog (lex_mark_G (ρ := ρ) k) := gok_cons (strings_IndexByte_ok k) (gok_nil)
noncomputable def lex_mark_j9_s {ρ : Type} (k : Nat) : Run UX ρ := fun s K =>
popS 0 s.env fun v1 e2 =>
asS v1 fun s0 =>
popN e2 <|
popN s.hp <|
lex_mark_j9 k (fun t2 => K .ret ⟨[(2, .pv (.int .i64 t2))], []⟩) s0
noncomputable def lex_mark_cfg {ρ : Type} (k : Nat) : Cfg UX ρ where
  live i := (assoc [(0, [0]), (1, [0]), (2, [0]), (3, [0, 7]), (4, [0, 7]), (5, [0, 7]), (6, [0, 7]), (7, [0, 7]), (8, []), (9, [0]), (10, []), (11, [])] i).getD []
  boxes i := (assoc [(0, []), (1, []), (2, []), (3, []), (4, []), (5, []), (6, []), (7, []), (8, []), (9, []), (10, []), (11, [])] i).getD []
  tk i := (assoc [] i).getD []
  n := 18
  labelR l := (assoc [] l).getD 0
  loops := assoc []
  labels := assoc []
  joins := assoc [(9, lex_mark_j9_s k)]
  xl i e := match e with
    | .nxt => assoc [] i
    | .ret => assoc [(9, ([2], []))] i
    | .exit j => (assoc [] i).bind fun l => assoc l j
    | .goto j => (assoc [] i).bind fun l => assoc l j
noncomputable def lex_mark_L : List Code := selI [] (loopsOf lex_mark_code)
noncomputable def lex_mark_J : List Code := selI [9] (joinsOf lex_mark_code)
noncomputable def lex_mark_S : List Code := scopesOf lex_mark_code
theorem lex_mark_j9_eq0 {ρ : Type} (k : Nat) (K : Ex → St UU → Option ρ) (s0 : ByteArray) : exec UX (lex_mark_cfg k) (lex_mark_G k) (lex_mark_J.getD 0 .skip) ⟨[(0, .pv (.str s0))], []⟩ (nrmK UX (lex_mark_cfg k) 9 K) = lex_mark_j9 k (fun t2 => K .ret ⟨[(2, .pv (.int .i64 t2))], []⟩) s0 := by kernel_rfl
theorem lex_mark_j9_ok0 {ρ : Type} (k : Nat) : JoinOK UX (lex_mark_cfg (ρ := ρ) k) (lex_mark_G k) (lex_mark_J.getD 0 .skip) 9 (lex_mark_j9_s k) := by
  intro s K r h
  obtain ⟨env, hp⟩ := s
  unfold lex_mark_j9_s at h
  replace h := popS_inv h; obtain ⟨v1, e2, rfl, h⟩ := h
  replace h := asS_inv h; obtain ⟨s0, rfl, h⟩ := h
  replace h := popN_inv h; obtain ⟨rfl, h⟩ := h
  replace h := popN_inv h; obtain ⟨rfl, h⟩ := h
  exact (lex_mark_j9_eq0 k K s0).trans h
theorem lex_mark_cok {ρ : Type} (k : Nat) : COK (lex_mark_cfg (ρ := ρ) k) (lex_mark_G k) lex_mark_code :=
  cok_of (tl := []) (tj := [(9, lex_mark_j9_s k)]) (tb := []) rfl rfl rfl (nil_all (by kernel_rfl)) (all_nth 1 (by kernel_rfl) ⟨join_case (by kernel_rfl) rfl (lex_mark_j9_ok0 k), trivial⟩) (fun p hp => by cases hp)
noncomputable def lex_mark_enc (r : Int) : AV UU := .pv (.int .i64 r)
noncomputable def lex_mark_dec (v : AV UU) (_ : List (List (AV UU))) : Option Int :=
asI .i64 v fun r0 =>
some r0
theorem lex_mark_dec_enc (v : AV UU) (b : List (List (AV UU))) (r : Int) (h : lex_mark_dec v b = some r) : v = lex_mark_enc r := by
  unfold lex_mark_dec at h
  replace h := asI_inv h; obtain ⟨r0, rfl, h⟩ := h
  cases h
  rfl
theorem lex_mark_eq (k : Nat) (s0 : ByteArray) : bodyK UX (lex_mark_cfg k) (lex_mark_G k) Tryd.f129 [.pv (.str s0)] [] lex_mark_dec = lex_mark k s0 := by kernel_rfl
theorem lex_mark_con (k : Nat) (s0 : ByteArray) (r : Int) (h : lex_mark k s0 = some r) : Con (X := UX) Tryd.prog 129 [.pv (.str s0)] [] (lex_mark_enc r) [] :=
  con_of_body xok tok Tryd.func129 lex_mark_body (lex_mark_gok k) rfl (lex_mark_cok k) (of_decide_eq_true (by kernel_rfl)) lex_mark_dec_enc ((lex_mark_eq k s0).trans h)
noncomputable def lex_mark_an {ρ : Type} (k : Nat) : An UX ρ := fun args bx K =>
popA args fun v1 a2 =>
asS v1 fun s0 =>
popN a2 <|
popN bx <|
(lex_mark k s0).bind fun r => K (lex_mark_enc r) []
theorem lex_mark_ok {ρ : Type} (k : Nat) : AnsOK Tryd.prog 129 (lex_mark_an (ρ := ρ) k) := by
  intro args bx K r h
  unfold lex_mark_an at h
  replace h := popA_inv h; obtain ⟨v1, a2, rfl, h⟩ := h
  replace h := asS_inv h; obtain ⟨s0, rfl, h⟩ := h
  replace h := popN_inv h; obtain ⟨rfl, h⟩ := h
  replace h := popN_inv h; obtain ⟨rfl, h⟩ := h
  replace h := bind_inv h
  obtain ⟨x, hx, h⟩ := h
  exact ⟨there_of Tryd.func129 (by kernel_rfl) lex_mark_body, _, _, h, lex_mark_con k s0 x hx⟩

/-! cadastre/lex.nibble -/
noncomputable def lex_nibble_code : Code := match Tryd.f141.body with | some c => c | none => .skip
theorem lex_nibble_body : Tryd.f141.body = some lex_nibble_code := by kernel_rfl
noncomputable def lex_nibble_G {ρ : Type} (k : Nat) : Ans UX ρ := gk 128 (lex_digit_an k) (gnil)
theorem lex_nibble_gok {ρ : Type} (k : Nat) : GOK Tryd.prog (lex_nibble_G (ρ := ρ) k) := gok_cons (lex_digit_ok k) (gok_nil)
noncomputable def lex_nibble_j5_s {ρ : Type} (k : Nat) : Run UX ρ := fun s K =>
popS 0 s.env fun v1 e2 =>
asI .u8 v1 fun c0 =>
popN e2 <|
popN s.hp <|
lex_nibble_j5 k (fun t2 t3 => K .ret ⟨[(2, .pv (.int .u8 t2)), (3, .pv (.bool t3))], []⟩) (K .nxt ⟨[], []⟩) c0
noncomputable def lex_nibble_cfg {ρ : Type} (k : Nat) : Cfg UX ρ where
  live i := (assoc [(0, [0]), (1, [0]), (2, [0]), (3, [0]), (4, [0]), (5, [0]), (6, [0]), (7, [])] i).getD []
  boxes i := (assoc [(0, []), (1, []), (2, []), (3, []), (4, []), (5, []), (6, []), (7, [])] i).getD []
  tk i := (assoc [] i).getD []
  n := 29
  labelR l := (assoc [] l).getD 0
  loops := assoc []
  labels := assoc []
  joins := assoc [(5, lex_nibble_j5_s k)]
  xl i e := match e with
    | .nxt => assoc [(5, ([], []))] i
    | .ret => assoc [(5, ([2, 3], []))] i
    | .exit j => (assoc [] i).bind fun l => assoc l j
    | .goto j => (assoc [] i).bind fun l => assoc l j
noncomputable def lex_nibble_L : List Code := selI [] (loopsOf lex_nibble_code)
noncomputable def lex_nibble_J : List Code := selI [5] (joinsOf lex_nibble_code)
noncomputable def lex_nibble_S : List Code := scopesOf lex_nibble_code
theorem lex_nibble_j5_eq0 {ρ : Type} (k : Nat) (K : Ex → St UU → Option ρ) (c0 : Int) : exec UX (lex_nibble_cfg k) (lex_nibble_G k) (lex_nibble_J.getD 0 .skip) ⟨[(0, .pv (.int .u8 c0))], []⟩ (nrmK UX (lex_nibble_cfg k) 5 K) = lex_nibble_j5 k (fun t2 t3 => K .ret ⟨[(2, .pv (.int .u8 t2)), (3, .pv (.bool t3))], []⟩) (K .nxt ⟨[], []⟩) c0 := by kernel_rfl
theorem lex_nibble_j5_ok0 {ρ : Type} (k : Nat) : JoinOK UX (lex_nibble_cfg (ρ := ρ) k) (lex_nibble_G k) (lex_nibble_J.getD 0 .skip) 5 (lex_nibble_j5_s k) := by
  intro s K r h
  obtain ⟨env, hp⟩ := s
  unfold lex_nibble_j5_s at h
  replace h := popS_inv h; obtain ⟨v1, e2, rfl, h⟩ := h
  replace h := asI_inv h; obtain ⟨c0, rfl, h⟩ := h
  replace h := popN_inv h; obtain ⟨rfl, h⟩ := h
  replace h := popN_inv h; obtain ⟨rfl, h⟩ := h
  exact (lex_nibble_j5_eq0 k K c0).trans h
theorem lex_nibble_cok {ρ : Type} (k : Nat) : COK (lex_nibble_cfg (ρ := ρ) k) (lex_nibble_G k) lex_nibble_code :=
  cok_of (tl := []) (tj := [(5, lex_nibble_j5_s k)]) (tb := []) rfl rfl rfl (nil_all (by kernel_rfl)) (all_nth 1 (by kernel_rfl) ⟨join_case (by kernel_rfl) rfl (lex_nibble_j5_ok0 k), trivial⟩) (fun p hp => by cases hp)
noncomputable def lex_nibble_enc (r : Int × Bool) : AV UU := .pv (.tup [.int .u8 r.1, .bool r.2])
noncomputable def lex_nibble_dec (v : AV UU) (_ : List (List (AV UU))) : Option (Int × Bool) :=
asT v fun q1 =>
popA q1 fun p2 q3 =>
asI .u8 (.pv p2) fun r0 =>
popA q3 fun p4 q5 =>
asB (.pv p4) fun r1 =>
popN q5 <|
some (r0, r1)
theorem lex_nibble_dec_enc (v : AV UU) (b : List (List (AV UU))) (r : Int × Bool) (h : lex_nibble_dec v b = some r) : v = lex_nibble_enc r := by
  unfold lex_nibble_dec at h
  replace h := asT_inv h; obtain ⟨q1, rfl, h⟩ := h
  replace h := popA_inv h; obtain ⟨p2, q3, rfl, h⟩ := h
  replace h := asI_inv h; obtain ⟨r0, e, h⟩ := h; cases e
  replace h := popA_inv h; obtain ⟨p4, q5, rfl, h⟩ := h
  replace h := asB_inv h; obtain ⟨r1, e, h⟩ := h; cases e
  replace h := popN_inv h; obtain ⟨rfl, h⟩ := h
  cases h
  rfl
theorem lex_nibble_eq (k : Nat) (c0 : Int) : bodyK UX (lex_nibble_cfg k) (lex_nibble_G k) Tryd.f141 [.pv (.int .u8 c0)] [] lex_nibble_dec = lex_nibble k c0 := by kernel_rfl
theorem lex_nibble_con (k : Nat) (c0 : Int) (r : Int × Bool) (h : lex_nibble k c0 = some r) : Con (X := UX) Tryd.prog 141 [.pv (.int .u8 c0)] [] (lex_nibble_enc r) [] :=
  con_of_body xok tok Tryd.func141 lex_nibble_body (lex_nibble_gok k) rfl (lex_nibble_cok k) (of_decide_eq_true (by kernel_rfl)) lex_nibble_dec_enc ((lex_nibble_eq k c0).trans h)
noncomputable def lex_nibble_an {ρ : Type} (k : Nat) : An UX ρ := fun args bx K =>
popA args fun v1 a2 =>
asI .u8 v1 fun c0 =>
popN a2 <|
popN bx <|
(lex_nibble k c0).bind fun r => K (lex_nibble_enc r) []
theorem lex_nibble_ok {ρ : Type} (k : Nat) : AnsOK Tryd.prog 141 (lex_nibble_an (ρ := ρ) k) := by
  intro args bx K r h
  unfold lex_nibble_an at h
  replace h := popA_inv h; obtain ⟨v1, a2, rfl, h⟩ := h
  replace h := asI_inv h; obtain ⟨c0, rfl, h⟩ := h
  replace h := popN_inv h; obtain ⟨rfl, h⟩ := h
  replace h := popN_inv h; obtain ⟨rfl, h⟩ := h
  replace h := bind_inv h
  obtain ⟨x, hx, h⟩ := h
  exact ⟨there_of Tryd.func141 (by kernel_rfl) lex_nibble_body, _, _, h, lex_nibble_con k c0 x hx⟩

/-! cadastre/lex.blob -/
noncomputable def lex_blob_code : Code := match Tryd.f130.body with | some c => c | none => .skip
theorem lex_blob_body : Tryd.f130.body = some lex_blob_code := by kernel_rfl
noncomputable def lex_blob_G {ρ : Type} (k : Nat) : Ans UX ρ := gk 140 (strings_IndexByte_an k) (gk 141 (lex_nibble_an k) (gnil))
theorem lex_blob_gok {ρ : Type} (k : Nat) : GOK Tryd.prog (lex_blob_G (ρ := ρ) k) := gok_cons (strings_IndexByte_ok k) (gok_cons (lex_nibble_ok k) (gok_nil))
noncomputable def lex_blob_l6_s {ρ : Type} (k : Nat) : Run UX ρ := fun s K =>
popS 0 s.env fun v1 e2 =>
asS v1 fun s0 =>
popS 1 e2 fun v3 e4 =>
asI .i64 v3 fun at1 =>
popS 7 e4 fun v5 e6 =>
asI .i64 v5 fun n7 =>
popS 8 e6 fun v7 e8 =>
asO_li_u8 v7 fun b8 =>
popS 9 e8 fun v9 e10 =>
asI .i64 v9 fun k9 =>
popN e10 <|
popN s.hp <|
lex_blob_l6 k (fun text4 end5 ok6 => K .ret ⟨[(4, .pv (.str text4)), (5, .pv (.int .i64 end5)), (6, .pv (.bool ok6))], []⟩) (fun at1 n7 b8 => K (.exit 0) ⟨[(1, .pv (.int .i64 at1)), (7, .pv (.int .i64 n7)), (8, .own (.li_u8 b8))], []⟩) k s0 at1 n7 b8 k9
noncomputable def lex_blob_j4_s {ρ : Type} (k : Nat) : Run UX ρ := fun s K =>
popS 0 s.env fun v1 e2 =>
asS v1 fun s0 =>
popS 1 e2 fun v3 e4 =>
asI .i64 v3 fun at1 =>
popS 7 e4 fun v5 e6 =>
asI .i64 v5 fun n7 =>
popN e6 <|
popN s.hp <|
lex_blob_j4 k (fun text4 end5 ok6 => K .ret ⟨[(4, .pv (.str text4)), (5, .pv (.int .i64 end5)), (6, .pv (.bool ok6))], []⟩) s0 at1 n7
noncomputable def lex_blob_cfg {ρ : Type} (k : Nat) : Cfg UX ρ where
  live i := (assoc [(0, [0, 1]), (1, [0, 1]), (2, [0, 1, 7]), (3, []), (4, [0, 1, 7]), (5, [0, 1, 7, 8]), (6, [0, 1, 7, 8, 9]), (7, [0, 1, 7, 8, 9]), (8, [0, 1, 7, 8, 9]), (9, [0, 1, 7, 8, 9, 10, 11]), (10, [0, 1, 7, 8, 9, 10, 11, 12, 13]), (11, []), (12, [0, 1, 7, 8, 9, 10, 12]), (13, [1, 7, 8])] i).getD []
  boxes i := (assoc [(0, []), (1, []), (2, []), (3, []), (4, []), (5, []), (6, []), (7, []), (8, []), (9, []), (10, []), (11, []), (12, []), (13, [])] i).getD []
  tk i := (assoc [(1000000, [8])] i).getD []
  n := 67
  labelR l := (assoc [] l).getD 0
  loops := assoc [(6, lex_blob_l6_s k)]
  labels := assoc []
  joins := assoc [(4, lex_blob_j4_s k)]
  xl i e := match e with
    | .nxt => assoc [] i
    | .ret => assoc [(6, ([4, 5, 6], [])), (4, ([4, 5, 6], []))] i
    | .exit j => (assoc [(6, [(0, ([1, 7, 8], []))])] i).bind fun l => assoc l j
    | .goto j => (assoc [] i).bind fun l => assoc l j
noncomputable def lex_blob_L : List Code := selI [6] (loopsOf lex_blob_code)
noncomputable def lex_blob_J : List Code := selI [4] (joinsOf lex_blob_code)
noncomputable def lex_blob_S : List Code := scopesOf lex_blob_code
theorem lex_blob_l6_eq0 {ρ : Type} (k : Nat) (K : Ex → St UU → Option ρ) : ∀ (n : Nat) (v : ByteArray × Int × Int × (List Int) × Int), iterK UX (fun s => s.at (lex_blob_cfg (ρ := ρ) k).live (lex_blob_cfg (ρ := ρ) k).boxes (some 6)) (exec UX (lex_blob_cfg k) (lex_blob_G k) (lex_blob_L.getD 0 .skip)) n ⟨[(0, .pv (.str v.1)), (1, .pv (.int .i64 v.2.1)), (7, .pv (.int .i64 v.2.2.1)), (8, .own (.li_u8 v.2.2.2.1)), (9, .pv (.int .i64 v.2.2.2.2))], []⟩ (nrmK UX (lex_blob_cfg k) 6 K) = lex_blob_l6 k (fun text4 end5 ok6 => K .ret ⟨[(4, .pv (.str text4)), (5, .pv (.int .i64 end5)), (6, .pv (.bool ok6))], []⟩) (fun at1 n7 b8 => K (.exit 0) ⟨[(1, .pv (.int .i64 at1)), (7, .pv (.int .i64 n7)), (8, .own (.li_u8 b8))], []⟩) n v.1 v.2.1 v.2.2.1 v.2.2.2.1 v.2.2.2.2 :=
  iter_rec (X := UX) (fun v => ⟨[(0, .pv (.str v.1)), (1, .pv (.int .i64 v.2.1)), (7, .pv (.int .i64 v.2.2.1)), (8, .own (.li_u8 v.2.2.2.1)), (9, .pv (.int .i64 v.2.2.2.2))], []⟩) (fun rec v => lex_blob_l6_b k (fun text4 end5 ok6 => K .ret ⟨[(4, .pv (.str text4)), (5, .pv (.int .i64 end5)), (6, .pv (.bool ok6))], []⟩) (fun at1 n7 b8 => K (.exit 0) ⟨[(1, .pv (.int .i64 at1)), (7, .pv (.int .i64 n7)), (8, .own (.li_u8 b8))], []⟩) (fun s0 at1 n7 b8 k9 => rec (s0, at1, n7, b8, k9)) v.1 v.2.1 v.2.2.1 v.2.2.2.1 v.2.2.2.2) (fun n v => lex_blob_l6 k (fun text4 end5 ok6 => K .ret ⟨[(4, .pv (.str text4)), (5, .pv (.int .i64 end5)), (6, .pv (.bool ok6))], []⟩) (fun at1 n7 b8 => K (.exit 0) ⟨[(1, .pv (.int .i64 at1)), (7, .pv (.int .i64 n7)), (8, .own (.li_u8 b8))], []⟩) n v.1 v.2.1 v.2.2.1 v.2.2.2.1 v.2.2.2.2) (fun n v => by kernel_rfl) (fun _ => rfl) (fun _ _ => rfl)
theorem lex_blob_l6_ok0 {ρ : Type} (k : Nat) : IterOK UX (lex_blob_cfg (ρ := ρ) k) (lex_blob_G k) (lex_blob_L.getD 0 .skip) 6 (lex_blob_l6_s k) := by
  intro s K r h
  obtain ⟨env, hp⟩ := s
  unfold lex_blob_l6_s at h
  replace h := popS_inv h; obtain ⟨v1, e2, rfl, h⟩ := h
  replace h := asS_inv h; obtain ⟨s0, rfl, h⟩ := h
  replace h := popS_inv h; obtain ⟨v3, e4, rfl, h⟩ := h
  replace h := asI_inv h; obtain ⟨at1, rfl, h⟩ := h
  replace h := popS_inv h; obtain ⟨v5, e6, rfl, h⟩ := h
  replace h := asI_inv h; obtain ⟨n7, rfl, h⟩ := h
  replace h := popS_inv h; obtain ⟨v7, e8, rfl, h⟩ := h
  replace h := asO_li_u8_inv h; obtain ⟨b8, rfl, h⟩ := h
  replace h := popS_inv h; obtain ⟨v9, e10, rfl, h⟩ := h
  replace h := asI_inv h; obtain ⟨k9, rfl, h⟩ := h
  replace h := popN_inv h; obtain ⟨rfl, h⟩ := h
  replace h := popN_inv h; obtain ⟨rfl, h⟩ := h
  exact ⟨k, (lex_blob_l6_eq0 k K k (s0, at1, n7, b8, k9)).trans h⟩
theorem lex_blob_j4_eq0 {ρ : Type} (k : Nat) (K : Ex → St UU → Option ρ) (s0 : ByteArray) (at1 : Int) (n7 : Int) : exec UX (lex_blob_cfg k) (lex_blob_G k) (lex_blob_J.getD 0 .skip) ⟨[(0, .pv (.str s0)), (1, .pv (.int .i64 at1)), (7, .pv (.int .i64 n7))], []⟩ (nrmK UX (lex_blob_cfg k) 4 K) = lex_blob_j4 k (fun text4 end5 ok6 => K .ret ⟨[(4, .pv (.str text4)), (5, .pv (.int .i64 end5)), (6, .pv (.bool ok6))], []⟩) s0 at1 n7 := by kernel_rfl
theorem lex_blob_j4_ok0 {ρ : Type} (k : Nat) : JoinOK UX (lex_blob_cfg (ρ := ρ) k) (lex_blob_G k) (lex_blob_J.getD 0 .skip) 4 (lex_blob_j4_s k) := by
  intro s K r h
  obtain ⟨env, hp⟩ := s
  unfold lex_blob_j4_s at h
  replace h := popS_inv h; obtain ⟨v1, e2, rfl, h⟩ := h
  replace h := asS_inv h; obtain ⟨s0, rfl, h⟩ := h
  replace h := popS_inv h; obtain ⟨v3, e4, rfl, h⟩ := h
  replace h := asI_inv h; obtain ⟨at1, rfl, h⟩ := h
  replace h := popS_inv h; obtain ⟨v5, e6, rfl, h⟩ := h
  replace h := asI_inv h; obtain ⟨n7, rfl, h⟩ := h
  replace h := popN_inv h; obtain ⟨rfl, h⟩ := h
  replace h := popN_inv h; obtain ⟨rfl, h⟩ := h
  exact (lex_blob_j4_eq0 k K s0 at1 n7).trans h
theorem lex_blob_cok {ρ : Type} (k : Nat) : COK (lex_blob_cfg (ρ := ρ) k) (lex_blob_G k) lex_blob_code :=
  cok_of (tl := [(6, lex_blob_l6_s k)]) (tj := [(4, lex_blob_j4_s k)]) (tb := []) rfl rfl rfl (all_nth 1 (by kernel_rfl) ⟨iter_case (by kernel_rfl) rfl (lex_blob_l6_ok0 k), trivial⟩) (all_nth 1 (by kernel_rfl) ⟨join_case (by kernel_rfl) rfl (lex_blob_j4_ok0 k), trivial⟩) (fun p hp => by cases hp)
noncomputable def lex_blob_enc (r : ByteArray × Int × Bool) : AV UU := .pv (.tup [.str r.1, .int .i64 r.2.1, .bool r.2.2])
noncomputable def lex_blob_dec (v : AV UU) (_ : List (List (AV UU))) : Option (ByteArray × Int × Bool) :=
asT v fun q1 =>
popA q1 fun p2 q3 =>
asS (.pv p2) fun r0 =>
popA q3 fun p4 q5 =>
asI .i64 (.pv p4) fun r1 =>
popA q5 fun p6 q7 =>
asB (.pv p6) fun r2 =>
popN q7 <|
some (r0, r1, r2)
theorem lex_blob_dec_enc (v : AV UU) (b : List (List (AV UU))) (r : ByteArray × Int × Bool) (h : lex_blob_dec v b = some r) : v = lex_blob_enc r := by
  unfold lex_blob_dec at h
  replace h := asT_inv h; obtain ⟨q1, rfl, h⟩ := h
  replace h := popA_inv h; obtain ⟨p2, q3, rfl, h⟩ := h
  replace h := asS_inv h; obtain ⟨r0, e, h⟩ := h; cases e
  replace h := popA_inv h; obtain ⟨p4, q5, rfl, h⟩ := h
  replace h := asI_inv h; obtain ⟨r1, e, h⟩ := h; cases e
  replace h := popA_inv h; obtain ⟨p6, q7, rfl, h⟩ := h
  replace h := asB_inv h; obtain ⟨r2, e, h⟩ := h; cases e
  replace h := popN_inv h; obtain ⟨rfl, h⟩ := h
  cases h
  rfl
theorem lex_blob_eq (k : Nat) (s0 : ByteArray) (at1 : Int) : bodyK UX (lex_blob_cfg k) (lex_blob_G k) Tryd.f130 [.pv (.str s0), .pv (.int .i64 at1)] [] lex_blob_dec = lex_blob k s0 at1 := by kernel_rfl
theorem lex_blob_con (k : Nat) (s0 : ByteArray) (at1 : Int) (r : ByteArray × Int × Bool) (h : lex_blob k s0 at1 = some r) : Con (X := UX) Tryd.prog 130 [.pv (.str s0), .pv (.int .i64 at1)] [] (lex_blob_enc r) [] :=
  con_of_body xok tok Tryd.func130 lex_blob_body (lex_blob_gok k) rfl (lex_blob_cok k) (of_decide_eq_true (by kernel_rfl)) lex_blob_dec_enc ((lex_blob_eq k s0 at1).trans h)
noncomputable def lex_blob_an {ρ : Type} (k : Nat) : An UX ρ := fun args bx K =>
popA args fun v1 a2 =>
asS v1 fun s0 =>
popA a2 fun v3 a4 =>
asI .i64 v3 fun at1 =>
popN a4 <|
popN bx <|
(lex_blob k s0 at1).bind fun r => K (lex_blob_enc r) []
theorem lex_blob_ok {ρ : Type} (k : Nat) : AnsOK Tryd.prog 130 (lex_blob_an (ρ := ρ) k) := by
  intro args bx K r h
  unfold lex_blob_an at h
  replace h := popA_inv h; obtain ⟨v1, a2, rfl, h⟩ := h
  replace h := asS_inv h; obtain ⟨s0, rfl, h⟩ := h
  replace h := popA_inv h; obtain ⟨v3, a4, rfl, h⟩ := h
  replace h := asI_inv h; obtain ⟨at1, rfl, h⟩ := h
  replace h := popN_inv h; obtain ⟨rfl, h⟩ := h
  replace h := popN_inv h; obtain ⟨rfl, h⟩ := h
  replace h := bind_inv h
  obtain ⟨x, hx, h⟩ := h
  exact ⟨there_of Tryd.func130 (by kernel_rfl) lex_blob_body, _, _, h, lex_blob_con k s0 at1 x hx⟩

/-! cadastre/lex.Small -/
noncomputable def lex_Small_code : Code := match Tryd.f132.body with | some c => c | none => .skip
theorem lex_Small_body : Tryd.f132.body = some lex_Small_code := by kernel_rfl
noncomputable def lex_Small_G {ρ : Type} (k : Nat) : Ans UX ρ := gnil
theorem lex_Small_gok {ρ : Type} (k : Nat) : GOK Tryd.prog (lex_Small_G (ρ := ρ) k) := gok_nil
noncomputable def lex_Small_l3_s {ρ : Type} (k : Nat) : Run UX ρ := fun s K =>
popS 3 s.env fun v1 e2 =>
asO_li_u8 v1 fun b3 =>
popS 8 e2 fun v3 e4 =>
asL 3 v3 <|
popS 9 e4 fun v5 e6 =>
asI .i64 v5 fun t9 =>
popS 10 e6 fun v7 e8 =>
asI .i64 v7 fun t10 =>
popN e8 <|
popN s.hp <|
lex_Small_l3 k (fun b3 => K (.exit 0) ⟨[(3, .own (.li_u8 b3))], []⟩) k b3 t9 t10
noncomputable def lex_Small_cfg {ρ : Type} (k : Nat) : Cfg UX ρ where
  live i := (assoc [(0, [0]), (1, [0]), (2, [3]), (3, [3, 8, 9, 10]), (4, [3, 8, 9, 10]), (5, [3, 4, 5, 8, 9, 10]), (6, [3, 4, 5, 8, 9, 10]), (7, [3, 8, 9, 10]), (8, [3])] i).getD []
  boxes i := (assoc [(0, []), (1, []), (2, []), (3, []), (4, []), (5, []), (6, []), (7, []), (8, [])] i).getD []
  tk i := (assoc [] i).getD []
  n := 30
  labelR l := (assoc [] l).getD 0
  loops := assoc [(3, lex_Small_l3_s k)]
  labels := assoc []
  joins := assoc []
  xl i e := match e with
    | .nxt => assoc [] i
    | .ret => assoc [] i
    | .exit j => (assoc [(3, [(0, ([3], []))])] i).bind fun l => assoc l j
    | .goto j => (assoc [] i).bind fun l => assoc l j
noncomputable def lex_Small_L : List Code := selI [3] (loopsOf lex_Small_code)
noncomputable def lex_Small_J : List Code := selI [] (joinsOf lex_Small_code)
noncomputable def lex_Small_S : List Code := scopesOf lex_Small_code
theorem lex_Small_l3_eq0 {ρ : Type} (k : Nat) (K : Ex → St UU → Option ρ) : ∀ (n : Nat) (v : (List Int) × Int × Int), iterK UX (fun s => s.at (lex_Small_cfg (ρ := ρ) k).live (lex_Small_cfg (ρ := ρ) k).boxes (some 3)) (exec UX (lex_Small_cfg k) (lex_Small_G k) (lex_Small_L.getD 0 .skip)) n ⟨[(3, .own (.li_u8 v.1)), (8, .bor (.slot 3)), (9, .pv (.int .i64 v.2.1)), (10, .pv (.int .i64 v.2.2))], []⟩ (nrmK UX (lex_Small_cfg k) 3 K) = lex_Small_l3 k (fun b3 => K (.exit 0) ⟨[(3, .own (.li_u8 b3))], []⟩) n v.1 v.2.1 v.2.2 :=
  iter_rec (X := UX) (fun v => ⟨[(3, .own (.li_u8 v.1)), (8, .bor (.slot 3)), (9, .pv (.int .i64 v.2.1)), (10, .pv (.int .i64 v.2.2))], []⟩) (fun rec v => lex_Small_l3_b k (fun b3 => K (.exit 0) ⟨[(3, .own (.li_u8 b3))], []⟩) (fun b3 t9 t10 => rec (b3, t9, t10)) v.1 v.2.1 v.2.2) (fun n v => lex_Small_l3 k (fun b3 => K (.exit 0) ⟨[(3, .own (.li_u8 b3))], []⟩) n v.1 v.2.1 v.2.2) (fun n v => by kernel_rfl) (fun _ => rfl) (fun _ _ => rfl)
theorem lex_Small_l3_ok0 {ρ : Type} (k : Nat) : IterOK UX (lex_Small_cfg (ρ := ρ) k) (lex_Small_G k) (lex_Small_L.getD 0 .skip) 3 (lex_Small_l3_s k) := by
  intro s K r h
  obtain ⟨env, hp⟩ := s
  unfold lex_Small_l3_s at h
  replace h := popS_inv h; obtain ⟨v1, e2, rfl, h⟩ := h
  replace h := asO_li_u8_inv h; obtain ⟨b3, rfl, h⟩ := h
  replace h := popS_inv h; obtain ⟨v3, e4, rfl, h⟩ := h
  replace h := asL_inv h; obtain ⟨rfl, h⟩ := h
  replace h := popS_inv h; obtain ⟨v5, e6, rfl, h⟩ := h
  replace h := asI_inv h; obtain ⟨t9, rfl, h⟩ := h
  replace h := popS_inv h; obtain ⟨v7, e8, rfl, h⟩ := h
  replace h := asI_inv h; obtain ⟨t10, rfl, h⟩ := h
  replace h := popN_inv h; obtain ⟨rfl, h⟩ := h
  replace h := popN_inv h; obtain ⟨rfl, h⟩ := h
  exact ⟨k, (lex_Small_l3_eq0 k K k (b3, t9, t10)).trans h⟩
theorem lex_Small_cok {ρ : Type} (k : Nat) : COK (lex_Small_cfg (ρ := ρ) k) (lex_Small_G k) lex_Small_code :=
  cok_of (tl := [(3, lex_Small_l3_s k)]) (tj := []) (tb := []) rfl rfl rfl (all_nth 1 (by kernel_rfl) ⟨iter_case (by kernel_rfl) rfl (lex_Small_l3_ok0 k), trivial⟩) (nil_all (by kernel_rfl)) (fun p hp => by cases hp)
noncomputable def lex_Small_enc (r : ByteArray) : AV UU := .pv (.str r)
noncomputable def lex_Small_dec (v : AV UU) (_ : List (List (AV UU))) : Option ByteArray :=
asS v fun r0 =>
some r0
theorem lex_Small_dec_enc (v : AV UU) (b : List (List (AV UU))) (r : ByteArray) (h : lex_Small_dec v b = some r) : v = lex_Small_enc r := by
  unfold lex_Small_dec at h
  replace h := asS_inv h; obtain ⟨r0, rfl, h⟩ := h
  cases h
  rfl
theorem lex_Small_eq (k : Nat) (s0 : ByteArray) : bodyK UX (lex_Small_cfg k) (lex_Small_G k) Tryd.f132 [.pv (.str s0)] [] lex_Small_dec = lex_Small k s0 := by kernel_rfl
theorem lex_Small_con (k : Nat) (s0 : ByteArray) (r : ByteArray) (h : lex_Small k s0 = some r) : Con (X := UX) Tryd.prog 132 [.pv (.str s0)] [] (lex_Small_enc r) [] :=
  con_of_body xok tok Tryd.func132 lex_Small_body (lex_Small_gok k) rfl (lex_Small_cok k) (of_decide_eq_true (by kernel_rfl)) lex_Small_dec_enc ((lex_Small_eq k s0).trans h)
noncomputable def lex_Small_an {ρ : Type} (k : Nat) : An UX ρ := fun args bx K =>
popA args fun v1 a2 =>
asS v1 fun s0 =>
popN a2 <|
popN bx <|
(lex_Small k s0).bind fun r => K (lex_Small_enc r) []
theorem lex_Small_ok {ρ : Type} (k : Nat) : AnsOK Tryd.prog 132 (lex_Small_an (ρ := ρ) k) := by
  intro args bx K r h
  unfold lex_Small_an at h
  replace h := popA_inv h; obtain ⟨v1, a2, rfl, h⟩ := h
  replace h := asS_inv h; obtain ⟨s0, rfl, h⟩ := h
  replace h := popN_inv h; obtain ⟨rfl, h⟩ := h
  replace h := popN_inv h; obtain ⟨rfl, h⟩ := h
  replace h := bind_inv h
  obtain ⟨x, hx, h⟩ := h
  exact ⟨there_of Tryd.func132 (by kernel_rfl) lex_Small_body, _, _, h, lex_Small_con k s0 x hx⟩

/-! cadastre/lex.integer -/
noncomputable def lex_integer_code : Code := match Tryd.f133.body with | some c => c | none => .skip
theorem lex_integer_body : Tryd.f133.body = some lex_integer_code := by kernel_rfl
noncomputable def lex_integer_G {ρ : Type} (k : Nat) : Ans UX ρ := gnil
theorem lex_integer_gok {ρ : Type} (k : Nat) : GOK Tryd.prog (lex_integer_G (ρ := ρ) k) := gok_nil
noncomputable def lex_integer_l2_s {ρ : Type} (k : Nat) : Run UX ρ := fun s K =>
popS 0 s.env fun v1 e2 =>
asS v1 fun s0 =>
popS 2 e2 fun v3 e4 =>
asI .i64 v3 fun n2 =>
popS 7 e4 fun v5 e6 =>
asI .i64 v5 fun t7 =>
popS 8 e6 fun v7 e8 =>
asI .i64 v7 fun t8 =>
popN e8 <|
popN s.hp <|
lex_integer_l2 k (fun n2 ok3 => K .ret ⟨[(2, .pv (.int .i64 n2)), (3, .pv (.bool ok3))], []⟩) (fun n2 => K (.exit 0) ⟨[(2, .pv (.int .i64 n2))], []⟩) k s0 n2 t7 t8
noncomputable def lex_integer_cfg {ρ : Type} (k : Nat) : Cfg UX ρ where
  live i := (assoc [(0, [0]), (1, [0, 2]), (2, [0, 2, 7, 8]), (3, [0, 2, 7, 8]), (4, [0, 2, 4, 7, 8]), (5, [0, 2, 5, 7, 8]), (6, []), (7, [0, 2, 5, 7, 8]), (8, [0, 2, 7, 8]), (9, [2])] i).getD []
  boxes i := (assoc [(0, []), (1, []), (2, []), (3, []), (4, []), (5, []), (6, []), (7, []), (8, []), (9, [])] i).getD []
  tk i := (assoc [] i).getD []
  n := 27
  labelR l := (assoc [] l).getD 0
  loops := assoc [(2, lex_integer_l2_s k)]
  labels := assoc []
  joins := assoc []
  xl i e := match e with
    | .nxt => assoc [] i
    | .ret => assoc [(2, ([2, 3], []))] i
    | .exit j => (assoc [(2, [(0, ([2], []))])] i).bind fun l => assoc l j
    | .goto j => (assoc [] i).bind fun l => assoc l j
noncomputable def lex_integer_L : List Code := selI [2] (loopsOf lex_integer_code)
noncomputable def lex_integer_J : List Code := selI [] (joinsOf lex_integer_code)
noncomputable def lex_integer_S : List Code := scopesOf lex_integer_code
theorem lex_integer_l2_eq0 {ρ : Type} (k : Nat) (K : Ex → St UU → Option ρ) : ∀ (n : Nat) (v : ByteArray × Int × Int × Int), iterK UX (fun s => s.at (lex_integer_cfg (ρ := ρ) k).live (lex_integer_cfg (ρ := ρ) k).boxes (some 2)) (exec UX (lex_integer_cfg k) (lex_integer_G k) (lex_integer_L.getD 0 .skip)) n ⟨[(0, .pv (.str v.1)), (2, .pv (.int .i64 v.2.1)), (7, .pv (.int .i64 v.2.2.1)), (8, .pv (.int .i64 v.2.2.2))], []⟩ (nrmK UX (lex_integer_cfg k) 2 K) = lex_integer_l2 k (fun n2 ok3 => K .ret ⟨[(2, .pv (.int .i64 n2)), (3, .pv (.bool ok3))], []⟩) (fun n2 => K (.exit 0) ⟨[(2, .pv (.int .i64 n2))], []⟩) n v.1 v.2.1 v.2.2.1 v.2.2.2 :=
  iter_rec (X := UX) (fun v => ⟨[(0, .pv (.str v.1)), (2, .pv (.int .i64 v.2.1)), (7, .pv (.int .i64 v.2.2.1)), (8, .pv (.int .i64 v.2.2.2))], []⟩) (fun rec v => lex_integer_l2_b k (fun n2 ok3 => K .ret ⟨[(2, .pv (.int .i64 n2)), (3, .pv (.bool ok3))], []⟩) (fun n2 => K (.exit 0) ⟨[(2, .pv (.int .i64 n2))], []⟩) (fun s0 n2 t7 t8 => rec (s0, n2, t7, t8)) v.1 v.2.1 v.2.2.1 v.2.2.2) (fun n v => lex_integer_l2 k (fun n2 ok3 => K .ret ⟨[(2, .pv (.int .i64 n2)), (3, .pv (.bool ok3))], []⟩) (fun n2 => K (.exit 0) ⟨[(2, .pv (.int .i64 n2))], []⟩) n v.1 v.2.1 v.2.2.1 v.2.2.2) (fun n v => by kernel_rfl) (fun _ => rfl) (fun _ _ => rfl)
theorem lex_integer_l2_ok0 {ρ : Type} (k : Nat) : IterOK UX (lex_integer_cfg (ρ := ρ) k) (lex_integer_G k) (lex_integer_L.getD 0 .skip) 2 (lex_integer_l2_s k) := by
  intro s K r h
  obtain ⟨env, hp⟩ := s
  unfold lex_integer_l2_s at h
  replace h := popS_inv h; obtain ⟨v1, e2, rfl, h⟩ := h
  replace h := asS_inv h; obtain ⟨s0, rfl, h⟩ := h
  replace h := popS_inv h; obtain ⟨v3, e4, rfl, h⟩ := h
  replace h := asI_inv h; obtain ⟨n2, rfl, h⟩ := h
  replace h := popS_inv h; obtain ⟨v5, e6, rfl, h⟩ := h
  replace h := asI_inv h; obtain ⟨t7, rfl, h⟩ := h
  replace h := popS_inv h; obtain ⟨v7, e8, rfl, h⟩ := h
  replace h := asI_inv h; obtain ⟨t8, rfl, h⟩ := h
  replace h := popN_inv h; obtain ⟨rfl, h⟩ := h
  replace h := popN_inv h; obtain ⟨rfl, h⟩ := h
  exact ⟨k, (lex_integer_l2_eq0 k K k (s0, n2, t7, t8)).trans h⟩
theorem lex_integer_cok {ρ : Type} (k : Nat) : COK (lex_integer_cfg (ρ := ρ) k) (lex_integer_G k) lex_integer_code :=
  cok_of (tl := [(2, lex_integer_l2_s k)]) (tj := []) (tb := []) rfl rfl rfl (all_nth 1 (by kernel_rfl) ⟨iter_case (by kernel_rfl) rfl (lex_integer_l2_ok0 k), trivial⟩) (nil_all (by kernel_rfl)) (fun p hp => by cases hp)
noncomputable def lex_integer_enc (r : Int × Bool) : AV UU := .pv (.tup [.int .i64 r.1, .bool r.2])
noncomputable def lex_integer_dec (v : AV UU) (_ : List (List (AV UU))) : Option (Int × Bool) :=
asT v fun q1 =>
popA q1 fun p2 q3 =>
asI .i64 (.pv p2) fun r0 =>
popA q3 fun p4 q5 =>
asB (.pv p4) fun r1 =>
popN q5 <|
some (r0, r1)
theorem lex_integer_dec_enc (v : AV UU) (b : List (List (AV UU))) (r : Int × Bool) (h : lex_integer_dec v b = some r) : v = lex_integer_enc r := by
  unfold lex_integer_dec at h
  replace h := asT_inv h; obtain ⟨q1, rfl, h⟩ := h
  replace h := popA_inv h; obtain ⟨p2, q3, rfl, h⟩ := h
  replace h := asI_inv h; obtain ⟨r0, e, h⟩ := h; cases e
  replace h := popA_inv h; obtain ⟨p4, q5, rfl, h⟩ := h
  replace h := asB_inv h; obtain ⟨r1, e, h⟩ := h; cases e
  replace h := popN_inv h; obtain ⟨rfl, h⟩ := h
  cases h
  rfl
theorem lex_integer_eq (k : Nat) (s0 : ByteArray) : bodyK UX (lex_integer_cfg k) (lex_integer_G k) Tryd.f133 [.pv (.str s0)] [] lex_integer_dec = lex_integer k s0 := by kernel_rfl
theorem lex_integer_con (k : Nat) (s0 : ByteArray) (r : Int × Bool) (h : lex_integer k s0 = some r) : Con (X := UX) Tryd.prog 133 [.pv (.str s0)] [] (lex_integer_enc r) [] :=
  con_of_body xok tok Tryd.func133 lex_integer_body (lex_integer_gok k) rfl (lex_integer_cok k) (of_decide_eq_true (by kernel_rfl)) lex_integer_dec_enc ((lex_integer_eq k s0).trans h)
noncomputable def lex_integer_an {ρ : Type} (k : Nat) : An UX ρ := fun args bx K =>
popA args fun v1 a2 =>
asS v1 fun s0 =>
popN a2 <|
popN bx <|
(lex_integer k s0).bind fun r => K (lex_integer_enc r) []
theorem lex_integer_ok {ρ : Type} (k : Nat) : AnsOK Tryd.prog 133 (lex_integer_an (ρ := ρ) k) := by
  intro args bx K r h
  unfold lex_integer_an at h
  replace h := popA_inv h; obtain ⟨v1, a2, rfl, h⟩ := h
  replace h := asS_inv h; obtain ⟨s0, rfl, h⟩ := h
  replace h := popN_inv h; obtain ⟨rfl, h⟩ := h
  replace h := popN_inv h; obtain ⟨rfl, h⟩ := h
  replace h := bind_inv h
  obtain ⟨x, hx, h⟩ := h
  exact ⟨there_of Tryd.func133 (by kernel_rfl) lex_integer_body, _, _, h, lex_integer_con k s0 x hx⟩

/-! cadastre/lex.quoted -/
noncomputable def lex_quoted_code : Code := match Tryd.f134.body with | some c => c | none => .skip
theorem lex_quoted_body : Tryd.f134.body = some lex_quoted_code := by kernel_rfl
noncomputable def lex_quoted_G {ρ : Type} (k : Nat) : Ans UX ρ := gnil
theorem lex_quoted_gok {ρ : Type} (k : Nat) : GOK Tryd.prog (lex_quoted_G (ρ := ρ) k) := gok_nil
noncomputable def lex_quoted_j2_s {ρ : Type} (k : Nat) : Run UX ρ := fun s K =>
popS 0 s.env fun v1 e2 =>
asS v1 fun s0 =>
popS 1 e2 fun v3 e4 =>
asI .i64 v3 fun at1 =>
popS 7 e4 fun v5 e6 =>
asO_li_u8 v5 fun b7 =>
popN e6 <|
popN s.hp <|
lex_quoted_j2 k (fun text4 end5 ok6 => K .ret ⟨[(4, .pv (.str text4)), (5, .pv (.int .i64 end5)), (6, .pv (.bool ok6))], []⟩) (fun s0 at1 b7 => K (.goto 0) ⟨[(0, .pv (.str s0)), (1, .pv (.int .i64 at1)), (7, .own (.li_u8 b7))], []⟩) s0 at1 b7
noncomputable def lex_quoted_g0_s {ρ : Type} (k : Nat) : Run UX ρ := fun s K =>
popS 0 s.env fun v1 e2 =>
asS v1 fun s0 =>
popS 1 e2 fun v3 e4 =>
asI .i64 v3 fun at1 =>
popS 7 e4 fun v5 e6 =>
asO_li_u8 v5 fun b7 =>
popN e6 <|
popN s.hp <|
lex_quoted_g0 k (fun text4 end5 ok6 => K .ret ⟨[(4, .pv (.str text4)), (5, .pv (.int .i64 end5)), (6, .pv (.bool ok6))], []⟩) k s0 at1 b7
noncomputable def lex_quoted_cfg {ρ : Type} (k : Nat) : Cfg UX ρ where
  live i := (assoc [(0, [0, 1]), (1, [0, 1]), (2, [0, 1, 7]), (3, []), (4, [0, 1, 7]), (5, [0, 1, 7]), (6, [0, 1, 7]), (7, [0, 1, 7]), (8, [0, 1, 7]), (9, [0, 1, 7]), (10, [1, 7])] i).getD []
  boxes i := (assoc [(0, []), (1, []), (2, []), (3, []), (4, []), (5, []), (6, []), (7, []), (8, []), (9, []), (10, [])] i).getD []
  tk i := (assoc [(1000000, [7])] i).getD []
  n := 45
  labelR l := (assoc [(0, 2)] l).getD 0
  loops := assoc []
  labels := assoc [(0, lex_quoted_g0_s k)]
  joins := assoc [(2, lex_quoted_j2_s k)]
  xl i e := match e with
    | .nxt => assoc [] i
    | .ret => assoc [(2, ([4, 5, 6], [])), (2, ([4, 5, 6], []))] i
    | .exit j => (assoc [] i).bind fun l => assoc l j
    | .goto j => (assoc [(2, [(0, ([0, 1, 7], []))])] i).bind fun l => assoc l j
noncomputable def lex_quoted_L : List Code := selI [] (loopsOf lex_quoted_code)
noncomputable def lex_quoted_J : List Code := selI [2] (joinsOf lex_quoted_code)
noncomputable def lex_quoted_S : List Code := scopesOf lex_quoted_code
theorem lex_quoted_j2_eq0 {ρ : Type} (k : Nat) (K : Ex → St UU → Option ρ) (s0 : ByteArray) (at1 : Int) (b7 : List Int) : exec UX (lex_quoted_cfg k) (lex_quoted_G k) (lex_quoted_J.getD 0 .skip) ⟨[(0, .pv (.str s0)), (1, .pv (.int .i64 at1)), (7, .own (.li_u8 b7))], []⟩ (nrmK UX (lex_quoted_cfg k) 2 K) = lex_quoted_j2 k (fun text4 end5 ok6 => K .ret ⟨[(4, .pv (.str text4)), (5, .pv (.int .i64 end5)), (6, .pv (.bool ok6))], []⟩) (fun s0 at1 b7 => K (.goto 0) ⟨[(0, .pv (.str s0)), (1, .pv (.int .i64 at1)), (7, .own (.li_u8 b7))], []⟩) s0 at1 b7 := by kernel_rfl
theorem lex_quoted_j2_ok0 {ρ : Type} (k : Nat) : JoinOK UX (lex_quoted_cfg (ρ := ρ) k) (lex_quoted_G k) (lex_quoted_J.getD 0 .skip) 2 (lex_quoted_j2_s k) := by
  intro s K r h
  obtain ⟨env, hp⟩ := s
  unfold lex_quoted_j2_s at h
  replace h := popS_inv h; obtain ⟨v1, e2, rfl, h⟩ := h
  replace h := asS_inv h; obtain ⟨s0, rfl, h⟩ := h
  replace h := popS_inv h; obtain ⟨v3, e4, rfl, h⟩ := h
  replace h := asI_inv h; obtain ⟨at1, rfl, h⟩ := h
  replace h := popS_inv h; obtain ⟨v5, e6, rfl, h⟩ := h
  replace h := asO_li_u8_inv h; obtain ⟨b7, rfl, h⟩ := h
  replace h := popN_inv h; obtain ⟨rfl, h⟩ := h
  replace h := popN_inv h; obtain ⟨rfl, h⟩ := h
  exact (lex_quoted_j2_eq0 k K s0 at1 b7).trans h
noncomputable def lex_quoted_g0_f0 {ρ : Type} (k : Nat) : Run UX ρ := (suff UX (lex_quoted_cfg k) (lex_quoted_G k) (lex_quoted_S.getD 0 .skip) 0).getD fun _ _ => none
theorem lex_quoted_g0_eq0 {ρ : Type} (k : Nat) (K : Ex → St UU → Option ρ) : ∀ (n : Nat) (v : ByteArray × Int × (List Int)), scopeN UX (fun l s => s.at (lex_quoted_cfg (ρ := ρ) k).live (lex_quoted_cfg (ρ := ρ) k).boxes (some ((lex_quoted_cfg (ρ := ρ) k).labelR l))) (suff UX (lex_quoted_cfg k) (lex_quoted_G k) (lex_quoted_S.getD 0 .skip)) (fun l => ((lex_quoted_cfg (ρ := ρ) k).labels l).isSome) n (lex_quoted_g0_f0 k) ⟨[(0, .pv (.str v.1)), (1, .pv (.int .i64 v.2.1)), (7, .own (.li_u8 v.2.2))], []⟩ (nrmK UX (lex_quoted_cfg k) ((lex_quoted_cfg (ρ := ρ) k).labelR 0) K) = lex_quoted_g0 k (fun text4 end5 ok6 => K .ret ⟨[(4, .pv (.str text4)), (5, .pv (.int .i64 end5)), (6, .pv (.bool ok6))], []⟩) n v.1 v.2.1 v.2.2 :=
  scope_rec (X := UX) (fun _ => lex_quoted_g0_f0 k) (fun v => ⟨[(0, .pv (.str v.1)), (1, .pv (.int .i64 v.2.1)), (7, .own (.li_u8 v.2.2))], []⟩) (fun rec v => lex_quoted_g0_b k (fun text4 end5 ok6 => K .ret ⟨[(4, .pv (.str text4)), (5, .pv (.int .i64 end5)), (6, .pv (.bool ok6))], []⟩) (fun s0 at1 b7 => rec (s0, at1, b7)) v.1 v.2.1 v.2.2) (fun n v => lex_quoted_g0 k (fun text4 end5 ok6 => K .ret ⟨[(4, .pv (.str text4)), (5, .pv (.int .i64 end5)), (6, .pv (.bool ok6))], []⟩) n v.1 v.2.1 v.2.2) (fun n v => by kernel_rfl) (fun _ => rfl) (fun _ _ => rfl)
theorem lex_quoted_g0_ok0 {ρ : Type} (k : Nat) : LabOK UX (lex_quoted_cfg (ρ := ρ) k) (lex_quoted_G k) (lex_quoted_S.getD 0 .skip) 0 (lex_quoted_g0_s k) := by
  intro f hf s K r h
  have hf : lex_quoted_g0_f0 k = f := by unfold lex_quoted_g0_f0; rw [hf]; rfl
  subst hf
  obtain ⟨env, hp⟩ := s
  unfold lex_quoted_g0_s at h
  replace h := popS_inv h; obtain ⟨v1, e2, rfl, h⟩ := h
  replace h := asS_inv h; obtain ⟨s0, rfl, h⟩ := h
  replace h := popS_inv h; obtain ⟨v3, e4, rfl, h⟩ := h
  replace h := asI_inv h; obtain ⟨at1, rfl, h⟩ := h
  replace h := popS_inv h; obtain ⟨v5, e6, rfl, h⟩ := h
  replace h := asO_li_u8_inv h; obtain ⟨b7, rfl, h⟩ := h
  replace h := popN_inv h; obtain ⟨rfl, h⟩ := h
  replace h := popN_inv h; obtain ⟨rfl, h⟩ := h
  exact ⟨k, (lex_quoted_g0_eq0 k K k (s0, at1, b7)).trans h⟩
theorem lex_quoted_cok {ρ : Type} (k : Nat) : COK (lex_quoted_cfg (ρ := ρ) k) (lex_quoted_G k) lex_quoted_code :=
  cok_of (tl := []) (tj := [(2, lex_quoted_j2_s k)]) (tb := [(0, lex_quoted_g0_s k)]) rfl rfl rfl (nil_all (by kernel_rfl)) (all_nth 1 (by kernel_rfl) ⟨join_case (by kernel_rfl) rfl (lex_quoted_j2_ok0 k), trivial⟩) (fun p hp => by
    simp only [List.mem_cons, List.not_mem_nil, or_false] at hp
    subst hp
    · exact all_nth 1 (by kernel_rfl) ⟨lex_quoted_g0_ok0 k, trivial⟩)
noncomputable def lex_quoted_enc (r : ByteArray × Int × Bool) : AV UU := .pv (.tup [.str r.1, .int .i64 r.2.1, .bool r.2.2])
noncomputable def lex_quoted_dec (v : AV UU) (_ : List (List (AV UU))) : Option (ByteArray × Int × Bool) :=
asT v fun q1 =>
popA q1 fun p2 q3 =>
asS (.pv p2) fun r0 =>
popA q3 fun p4 q5 =>
asI .i64 (.pv p4) fun r1 =>
popA q5 fun p6 q7 =>
asB (.pv p6) fun r2 =>
popN q7 <|
some (r0, r1, r2)
theorem lex_quoted_dec_enc (v : AV UU) (b : List (List (AV UU))) (r : ByteArray × Int × Bool) (h : lex_quoted_dec v b = some r) : v = lex_quoted_enc r := by
  unfold lex_quoted_dec at h
  replace h := asT_inv h; obtain ⟨q1, rfl, h⟩ := h
  replace h := popA_inv h; obtain ⟨p2, q3, rfl, h⟩ := h
  replace h := asS_inv h; obtain ⟨r0, e, h⟩ := h; cases e
  replace h := popA_inv h; obtain ⟨p4, q5, rfl, h⟩ := h
  replace h := asI_inv h; obtain ⟨r1, e, h⟩ := h; cases e
  replace h := popA_inv h; obtain ⟨p6, q7, rfl, h⟩ := h
  replace h := asB_inv h; obtain ⟨r2, e, h⟩ := h; cases e
  replace h := popN_inv h; obtain ⟨rfl, h⟩ := h
  cases h
  rfl
theorem lex_quoted_eq (k : Nat) (s0 : ByteArray) (at1 : Int) : bodyK UX (lex_quoted_cfg k) (lex_quoted_G k) Tryd.f134 [.pv (.str s0), .pv (.int .i64 at1)] [] lex_quoted_dec = lex_quoted k s0 at1 := by kernel_rfl
theorem lex_quoted_con (k : Nat) (s0 : ByteArray) (at1 : Int) (r : ByteArray × Int × Bool) (h : lex_quoted k s0 at1 = some r) : Con (X := UX) Tryd.prog 134 [.pv (.str s0), .pv (.int .i64 at1)] [] (lex_quoted_enc r) [] :=
  con_of_body xok tok Tryd.func134 lex_quoted_body (lex_quoted_gok k) rfl (lex_quoted_cok k) (of_decide_eq_true (by kernel_rfl)) lex_quoted_dec_enc ((lex_quoted_eq k s0 at1).trans h)
noncomputable def lex_quoted_an {ρ : Type} (k : Nat) : An UX ρ := fun args bx K =>
popA args fun v1 a2 =>
asS v1 fun s0 =>
popA a2 fun v3 a4 =>
asI .i64 v3 fun at1 =>
popN a4 <|
popN bx <|
(lex_quoted k s0 at1).bind fun r => K (lex_quoted_enc r) []
theorem lex_quoted_ok {ρ : Type} (k : Nat) : AnsOK Tryd.prog 134 (lex_quoted_an (ρ := ρ) k) := by
  intro args bx K r h
  unfold lex_quoted_an at h
  replace h := popA_inv h; obtain ⟨v1, a2, rfl, h⟩ := h
  replace h := asS_inv h; obtain ⟨s0, rfl, h⟩ := h
  replace h := popA_inv h; obtain ⟨v3, a4, rfl, h⟩ := h
  replace h := asI_inv h; obtain ⟨at1, rfl, h⟩ := h
  replace h := popN_inv h; obtain ⟨rfl, h⟩ := h
  replace h := popN_inv h; obtain ⟨rfl, h⟩ := h
  replace h := bind_inv h
  obtain ⟨x, hx, h⟩ := h
  exact ⟨there_of Tryd.func134 (by kernel_rfl) lex_quoted_body, _, _, h, lex_quoted_con k s0 at1 x hx⟩

/-! cadastre/lex.token$1 -/
noncomputable def lex_token_1_code : Code := match Tryd.f131.body with | some c => c | none => .skip
theorem lex_token_1_body : Tryd.f131.body = some lex_token_1_code := by kernel_rfl
noncomputable def lex_token_1_G {ρ : Type} (k : Nat) : Ans UX ρ := gk 127 (lex_letter_an k) (gk 128 (lex_digit_an k) (gnil))
theorem lex_token_1_gok {ρ : Type} (k : Nat) : GOK Tryd.prog (lex_token_1_G (ρ := ρ) k) := gok_cons (lex_letter_ok k) (gok_cons (lex_digit_ok k) (gok_nil))
noncomputable def lex_token_1_cfg {ρ : Type} (k : Nat) : Cfg UX ρ where
  live i := (assoc [(0, [0]), (1, [0])] i).getD []
  boxes i := (assoc [(0, []), (1, [])] i).getD []
  tk i := (assoc [] i).getD []
  n := 9
  labelR l := (assoc [] l).getD 0
  loops := assoc []
  labels := assoc []
  joins := assoc []
  xl i e := match e with
    | .nxt => assoc [] i
    | .ret => assoc [] i
    | .exit j => (assoc [] i).bind fun l => assoc l j
    | .goto j => (assoc [] i).bind fun l => assoc l j
noncomputable def lex_token_1_L : List Code := selI [] (loopsOf lex_token_1_code)
noncomputable def lex_token_1_J : List Code := selI [] (joinsOf lex_token_1_code)
noncomputable def lex_token_1_S : List Code := scopesOf lex_token_1_code
theorem lex_token_1_cok {ρ : Type} (k : Nat) : COK (lex_token_1_cfg (ρ := ρ) k) (lex_token_1_G k) lex_token_1_code :=
  cok_of (tl := []) (tj := []) (tb := []) rfl rfl rfl (nil_all (by kernel_rfl)) (nil_all (by kernel_rfl)) (fun p hp => by cases hp)
noncomputable def lex_token_1_enc (r : Bool) : AV UU := .pv (.bool r)
noncomputable def lex_token_1_dec (v : AV UU) (_ : List (List (AV UU))) : Option Bool :=
asB v fun r0 =>
some r0
theorem lex_token_1_dec_enc (v : AV UU) (b : List (List (AV UU))) (r : Bool) (h : lex_token_1_dec v b = some r) : v = lex_token_1_enc r := by
  unfold lex_token_1_dec at h
  replace h := asB_inv h; obtain ⟨r0, rfl, h⟩ := h
  cases h
  rfl
theorem lex_token_1_eq (k : Nat) (c0 : Int) : bodyK UX (lex_token_1_cfg k) (lex_token_1_G k) Tryd.f131 [.pv (.int .u8 c0)] [] lex_token_1_dec = lex_token_1 k c0 := by kernel_rfl
theorem lex_token_1_con (k : Nat) (c0 : Int) (r : Bool) (h : lex_token_1 k c0 = some r) : Con (X := UX) Tryd.prog 131 [.pv (.int .u8 c0)] [] (lex_token_1_enc r) [] :=
  con_of_body xok tok Tryd.func131 lex_token_1_body (lex_token_1_gok k) rfl (lex_token_1_cok k) (of_decide_eq_true (by kernel_rfl)) lex_token_1_dec_enc ((lex_token_1_eq k c0).trans h)
noncomputable def lex_token_1_an {ρ : Type} (k : Nat) : An UX ρ := fun args bx K =>
popA args fun v1 a2 =>
asI .u8 v1 fun c0 =>
popN a2 <|
popN bx <|
(lex_token_1 k c0).bind fun r => K (lex_token_1_enc r) []
theorem lex_token_1_ok {ρ : Type} (k : Nat) : AnsOK Tryd.prog 131 (lex_token_1_an (ρ := ρ) k) := by
  intro args bx K r h
  unfold lex_token_1_an at h
  replace h := popA_inv h; obtain ⟨v1, a2, rfl, h⟩ := h
  replace h := asI_inv h; obtain ⟨c0, rfl, h⟩ := h
  replace h := popN_inv h; obtain ⟨rfl, h⟩ := h
  replace h := popN_inv h; obtain ⟨rfl, h⟩ := h
  replace h := bind_inv h
  obtain ⟨x, hx, h⟩ := h
  exact ⟨there_of Tryd.func131 (by kernel_rfl) lex_token_1_body, _, _, h, lex_token_1_con k c0 x hx⟩

/-! cadastre/lex.span -/
noncomputable def lex_span_f131_code : Code := match Tryd.f123.body with | some c => c | none => .skip
theorem lex_span_f131_body : Tryd.f123.body = some lex_span_f131_code := by kernel_rfl
noncomputable def lex_span_f131_G {ρ : Type} (k : Nat) : Ans UX ρ := gk 131 (lex_token_1_an k) (gnil)
theorem lex_span_f131_gok {ρ : Type} (k : Nat) : GOK Tryd.prog (lex_span_f131_G (ρ := ρ) k) := gok_cons (lex_token_1_ok k) (gok_nil)
noncomputable def lex_span_f131_l1_s {ρ : Type} (k : Nat) : Run UX ρ := fun s K =>
popS 0 s.env fun v1 e2 =>
asS v1 fun s0 =>
popS 1 e2 fun v3 e4 =>
asI .i64 v3 fun at1 =>
popS 2 e4 fun v5 e6 =>
asF 131 v5 fun fa7 fb8 =>
popN fa7 <|
popN fb8 <|
popN e6 <|
popN s.hp <|
lex_span_f131_l1 k (fun at1 => K (.exit 0) ⟨[(1, .pv (.int .i64 at1))], []⟩) k s0 at1
noncomputable def lex_span_f131_cfg {ρ : Type} (k : Nat) : Cfg UX ρ where
  live i := (assoc [(0, [0, 1, 2]), (1, [0, 1, 2]), (2, [0, 1, 2]), (3, [1])] i).getD []
  boxes i := (assoc [(0, []), (1, []), (2, []), (3, [])] i).getD []
  tk i := (assoc [] i).getD []
  n := 21
  labelR l := (assoc [] l).getD 0
  loops := assoc [(1, lex_span_f131_l1_s k)]
  labels := assoc []
  joins := assoc []
  xl i e := match e with
    | .nxt => assoc [] i
    | .ret => assoc [] i
    | .exit j => (assoc [(1, [(0, ([1], []))])] i).bind fun l => assoc l j
    | .goto j => (assoc [] i).bind fun l => assoc l j
noncomputable def lex_span_f131_L : List Code := selI [1] (loopsOf lex_span_f131_code)
noncomputable def lex_span_f131_J : List Code := selI [] (joinsOf lex_span_f131_code)
noncomputable def lex_span_f131_S : List Code := scopesOf lex_span_f131_code
theorem lex_span_f131_l1_eq0 {ρ : Type} (k : Nat) (K : Ex → St UU → Option ρ) : ∀ (n : Nat) (v : ByteArray × Int), iterK UX (fun s => s.at (lex_span_f131_cfg (ρ := ρ) k).live (lex_span_f131_cfg (ρ := ρ) k).boxes (some 1)) (exec UX (lex_span_f131_cfg k) (lex_span_f131_G k) (lex_span_f131_L.getD 0 .skip)) n ⟨[(0, .pv (.str v.1)), (1, .pv (.int .i64 v.2)), (2, .fn 131 [] [])], []⟩ (nrmK UX (lex_span_f131_cfg k) 1 K) = lex_span_f131_l1 k (fun at1 => K (.exit 0) ⟨[(1, .pv (.int .i64 at1))], []⟩) n v.1 v.2 :=
  iter_rec (X := UX) (fun v => ⟨[(0, .pv (.str v.1)), (1, .pv (.int .i64 v.2)), (2, .fn 131 [] [])], []⟩) (fun rec v => lex_span_f131_l1_b k (fun at1 => K (.exit 0) ⟨[(1, .pv (.int .i64 at1))], []⟩) (fun s0 at1 => rec (s0, at1)) v.1 v.2) (fun n v => lex_span_f131_l1 k (fun at1 => K (.exit 0) ⟨[(1, .pv (.int .i64 at1))], []⟩) n v.1 v.2) (fun n v => by kernel_rfl) (fun _ => rfl) (fun _ _ => rfl)
theorem lex_span_f131_l1_ok0 {ρ : Type} (k : Nat) : IterOK UX (lex_span_f131_cfg (ρ := ρ) k) (lex_span_f131_G k) (lex_span_f131_L.getD 0 .skip) 1 (lex_span_f131_l1_s k) := by
  intro s K r h
  obtain ⟨env, hp⟩ := s
  unfold lex_span_f131_l1_s at h
  replace h := popS_inv h; obtain ⟨v1, e2, rfl, h⟩ := h
  replace h := asS_inv h; obtain ⟨s0, rfl, h⟩ := h
  replace h := popS_inv h; obtain ⟨v3, e4, rfl, h⟩ := h
  replace h := asI_inv h; obtain ⟨at1, rfl, h⟩ := h
  replace h := popS_inv h; obtain ⟨v5, e6, rfl, h⟩ := h
  replace h := asF_inv h; obtain ⟨fa7, fb8, rfl, h⟩ := h
  replace h := popN_inv h; obtain ⟨rfl, h⟩ := h
  replace h := popN_inv h; obtain ⟨rfl, h⟩ := h
  replace h := popN_inv h; obtain ⟨rfl, h⟩ := h
  replace h := popN_inv h; obtain ⟨rfl, h⟩ := h
  exact ⟨k, (lex_span_f131_l1_eq0 k K k (s0, at1)).trans h⟩
theorem lex_span_f131_cok {ρ : Type} (k : Nat) : COK (lex_span_f131_cfg (ρ := ρ) k) (lex_span_f131_G k) lex_span_f131_code :=
  cok_of (tl := [(1, lex_span_f131_l1_s k)]) (tj := []) (tb := []) rfl rfl rfl (all_nth 1 (by kernel_rfl) ⟨iter_case (by kernel_rfl) rfl (lex_span_f131_l1_ok0 k), trivial⟩) (nil_all (by kernel_rfl)) (fun p hp => by cases hp)
noncomputable def lex_span_f131_enc (r : Int) : AV UU := .pv (.int .i64 r)
noncomputable def lex_span_f131_dec (v : AV UU) (_ : List (List (AV UU))) : Option Int :=
asI .i64 v fun r0 =>
some r0
theorem lex_span_f131_dec_enc (v : AV UU) (b : List (List (AV UU))) (r : Int) (h : lex_span_f131_dec v b = some r) : v = lex_span_f131_enc r := by
  unfold lex_span_f131_dec at h
  replace h := asI_inv h; obtain ⟨r0, rfl, h⟩ := h
  cases h
  rfl
theorem lex_span_f131_eq (k : Nat) (s0 : ByteArray) (at1 : Int) : bodyK UX (lex_span_f131_cfg k) (lex_span_f131_G k) Tryd.f123 [.pv (.str s0), .pv (.int .i64 at1), .fn 131 [] []] [] lex_span_f131_dec = lex_span_f131 k s0 at1 := by kernel_rfl
theorem lex_span_f131_con (k : Nat) (s0 : ByteArray) (at1 : Int) (r : Int) (h : lex_span_f131 k s0 at1 = some r) : Con (X := UX) Tryd.prog 123 [.pv (.str s0), .pv (.int .i64 at1), .fn 131 [] []] [] (lex_span_f131_enc r) [] :=
  con_of_body xok tok Tryd.func123 lex_span_f131_body (lex_span_f131_gok k) rfl (lex_span_f131_cok k) (of_decide_eq_true (by kernel_rfl)) lex_span_f131_dec_enc ((lex_span_f131_eq k s0 at1).trans h)
noncomputable def lex_span_f131_an {ρ : Type} (k : Nat) : An UX ρ := fun args bx K =>
popA args fun v1 a2 =>
asS v1 fun s0 =>
popA a2 fun v3 a4 =>
asI .i64 v3 fun at1 =>
popA a4 fun v5 a6 =>
asF 131 v5 fun fa7 fb8 =>
popN fa7 <|
popN fb8 <|
popN a6 <|
popN bx <|
(lex_span_f131 k s0 at1).bind fun r => K (lex_span_f131_enc r) []
theorem lex_span_f131_ok {ρ : Type} (k : Nat) : AnsOK Tryd.prog 123 (lex_span_f131_an (ρ := ρ) k) := by
  intro args bx K r h
  unfold lex_span_f131_an at h
  replace h := popA_inv h; obtain ⟨v1, a2, rfl, h⟩ := h
  replace h := asS_inv h; obtain ⟨s0, rfl, h⟩ := h
  replace h := popA_inv h; obtain ⟨v3, a4, rfl, h⟩ := h
  replace h := asI_inv h; obtain ⟨at1, rfl, h⟩ := h
  replace h := popA_inv h; obtain ⟨v5, a6, rfl, h⟩ := h
  replace h := asF_inv h; obtain ⟨fa7, fb8, rfl, h⟩ := h
  replace h := popN_inv h; obtain ⟨rfl, h⟩ := h
  replace h := popN_inv h; obtain ⟨rfl, h⟩ := h
  replace h := popN_inv h; obtain ⟨rfl, h⟩ := h
  replace h := popN_inv h; obtain ⟨rfl, h⟩ := h
  replace h := bind_inv h
  obtain ⟨x, hx, h⟩ := h
  exact ⟨there_of Tryd.func123 (by kernel_rfl) lex_span_f131_body, _, _, h, lex_span_f131_con k s0 at1 x hx⟩

/-! cadastre/lex.span -/
noncomputable def lex_span_f128_code : Code := match Tryd.f123.body with | some c => c | none => .skip
theorem lex_span_f128_body : Tryd.f123.body = some lex_span_f128_code := by kernel_rfl
noncomputable def lex_span_f128_G {ρ : Type} (k : Nat) : Ans UX ρ := gk 128 (lex_digit_an k) (gnil)
theorem lex_span_f128_gok {ρ : Type} (k : Nat) : GOK Tryd.prog (lex_span_f128_G (ρ := ρ) k) := gok_cons (lex_digit_ok k) (gok_nil)
noncomputable def lex_span_f128_l1_s {ρ : Type} (k : Nat) : Run UX ρ := fun s K =>
popS 0 s.env fun v1 e2 =>
asS v1 fun s0 =>
popS 1 e2 fun v3 e4 =>
asI .i64 v3 fun at1 =>
popS 2 e4 fun v5 e6 =>
asF 128 v5 fun fa7 fb8 =>
popN fa7 <|
popN fb8 <|
popN e6 <|
popN s.hp <|
lex_span_f128_l1 k (fun at1 => K (.exit 0) ⟨[(1, .pv (.int .i64 at1))], []⟩) k s0 at1
noncomputable def lex_span_f128_cfg {ρ : Type} (k : Nat) : Cfg UX ρ where
  live i := (assoc [(0, [0, 1, 2]), (1, [0, 1, 2]), (2, [0, 1, 2]), (3, [1])] i).getD []
  boxes i := (assoc [(0, []), (1, []), (2, []), (3, [])] i).getD []
  tk i := (assoc [] i).getD []
  n := 21
  labelR l := (assoc [] l).getD 0
  loops := assoc [(1, lex_span_f128_l1_s k)]
  labels := assoc []
  joins := assoc []
  xl i e := match e with
    | .nxt => assoc [] i
    | .ret => assoc [] i
    | .exit j => (assoc [(1, [(0, ([1], []))])] i).bind fun l => assoc l j
    | .goto j => (assoc [] i).bind fun l => assoc l j
noncomputable def lex_span_f128_L : List Code := selI [1] (loopsOf lex_span_f128_code)
noncomputable def lex_span_f128_J : List Code := selI [] (joinsOf lex_span_f128_code)
noncomputable def lex_span_f128_S : List Code := scopesOf lex_span_f128_code
theorem lex_span_f128_l1_eq0 {ρ : Type} (k : Nat) (K : Ex → St UU → Option ρ) : ∀ (n : Nat) (v : ByteArray × Int), iterK UX (fun s => s.at (lex_span_f128_cfg (ρ := ρ) k).live (lex_span_f128_cfg (ρ := ρ) k).boxes (some 1)) (exec UX (lex_span_f128_cfg k) (lex_span_f128_G k) (lex_span_f128_L.getD 0 .skip)) n ⟨[(0, .pv (.str v.1)), (1, .pv (.int .i64 v.2)), (2, .fn 128 [] [])], []⟩ (nrmK UX (lex_span_f128_cfg k) 1 K) = lex_span_f128_l1 k (fun at1 => K (.exit 0) ⟨[(1, .pv (.int .i64 at1))], []⟩) n v.1 v.2 :=
  iter_rec (X := UX) (fun v => ⟨[(0, .pv (.str v.1)), (1, .pv (.int .i64 v.2)), (2, .fn 128 [] [])], []⟩) (fun rec v => lex_span_f128_l1_b k (fun at1 => K (.exit 0) ⟨[(1, .pv (.int .i64 at1))], []⟩) (fun s0 at1 => rec (s0, at1)) v.1 v.2) (fun n v => lex_span_f128_l1 k (fun at1 => K (.exit 0) ⟨[(1, .pv (.int .i64 at1))], []⟩) n v.1 v.2) (fun n v => by kernel_rfl) (fun _ => rfl) (fun _ _ => rfl)
theorem lex_span_f128_l1_ok0 {ρ : Type} (k : Nat) : IterOK UX (lex_span_f128_cfg (ρ := ρ) k) (lex_span_f128_G k) (lex_span_f128_L.getD 0 .skip) 1 (lex_span_f128_l1_s k) := by
  intro s K r h
  obtain ⟨env, hp⟩ := s
  unfold lex_span_f128_l1_s at h
  replace h := popS_inv h; obtain ⟨v1, e2, rfl, h⟩ := h
  replace h := asS_inv h; obtain ⟨s0, rfl, h⟩ := h
  replace h := popS_inv h; obtain ⟨v3, e4, rfl, h⟩ := h
  replace h := asI_inv h; obtain ⟨at1, rfl, h⟩ := h
  replace h := popS_inv h; obtain ⟨v5, e6, rfl, h⟩ := h
  replace h := asF_inv h; obtain ⟨fa7, fb8, rfl, h⟩ := h
  replace h := popN_inv h; obtain ⟨rfl, h⟩ := h
  replace h := popN_inv h; obtain ⟨rfl, h⟩ := h
  replace h := popN_inv h; obtain ⟨rfl, h⟩ := h
  replace h := popN_inv h; obtain ⟨rfl, h⟩ := h
  exact ⟨k, (lex_span_f128_l1_eq0 k K k (s0, at1)).trans h⟩
theorem lex_span_f128_cok {ρ : Type} (k : Nat) : COK (lex_span_f128_cfg (ρ := ρ) k) (lex_span_f128_G k) lex_span_f128_code :=
  cok_of (tl := [(1, lex_span_f128_l1_s k)]) (tj := []) (tb := []) rfl rfl rfl (all_nth 1 (by kernel_rfl) ⟨iter_case (by kernel_rfl) rfl (lex_span_f128_l1_ok0 k), trivial⟩) (nil_all (by kernel_rfl)) (fun p hp => by cases hp)
noncomputable def lex_span_f128_enc (r : Int) : AV UU := .pv (.int .i64 r)
noncomputable def lex_span_f128_dec (v : AV UU) (_ : List (List (AV UU))) : Option Int :=
asI .i64 v fun r0 =>
some r0
theorem lex_span_f128_dec_enc (v : AV UU) (b : List (List (AV UU))) (r : Int) (h : lex_span_f128_dec v b = some r) : v = lex_span_f128_enc r := by
  unfold lex_span_f128_dec at h
  replace h := asI_inv h; obtain ⟨r0, rfl, h⟩ := h
  cases h
  rfl
theorem lex_span_f128_eq (k : Nat) (s0 : ByteArray) (at1 : Int) : bodyK UX (lex_span_f128_cfg k) (lex_span_f128_G k) Tryd.f123 [.pv (.str s0), .pv (.int .i64 at1), .fn 128 [] []] [] lex_span_f128_dec = lex_span_f128 k s0 at1 := by kernel_rfl
theorem lex_span_f128_con (k : Nat) (s0 : ByteArray) (at1 : Int) (r : Int) (h : lex_span_f128 k s0 at1 = some r) : Con (X := UX) Tryd.prog 123 [.pv (.str s0), .pv (.int .i64 at1), .fn 128 [] []] [] (lex_span_f128_enc r) [] :=
  con_of_body xok tok Tryd.func123 lex_span_f128_body (lex_span_f128_gok k) rfl (lex_span_f128_cok k) (of_decide_eq_true (by kernel_rfl)) lex_span_f128_dec_enc ((lex_span_f128_eq k s0 at1).trans h)
noncomputable def lex_span_f128_an {ρ : Type} (k : Nat) : An UX ρ := fun args bx K =>
popA args fun v1 a2 =>
asS v1 fun s0 =>
popA a2 fun v3 a4 =>
asI .i64 v3 fun at1 =>
popA a4 fun v5 a6 =>
asF 128 v5 fun fa7 fb8 =>
popN fa7 <|
popN fb8 <|
popN a6 <|
popN bx <|
(lex_span_f128 k s0 at1).bind fun r => K (lex_span_f128_enc r) []
theorem lex_span_f128_ok {ρ : Type} (k : Nat) : AnsOK Tryd.prog 123 (lex_span_f128_an (ρ := ρ) k) := by
  intro args bx K r h
  unfold lex_span_f128_an at h
  replace h := popA_inv h; obtain ⟨v1, a2, rfl, h⟩ := h
  replace h := asS_inv h; obtain ⟨s0, rfl, h⟩ := h
  replace h := popA_inv h; obtain ⟨v3, a4, rfl, h⟩ := h
  replace h := asI_inv h; obtain ⟨at1, rfl, h⟩ := h
  replace h := popA_inv h; obtain ⟨v5, a6, rfl, h⟩ := h
  replace h := asF_inv h; obtain ⟨fa7, fb8, rfl, h⟩ := h
  replace h := popN_inv h; obtain ⟨rfl, h⟩ := h
  replace h := popN_inv h; obtain ⟨rfl, h⟩ := h
  replace h := popN_inv h; obtain ⟨rfl, h⟩ := h
  replace h := popN_inv h; obtain ⟨rfl, h⟩ := h
  replace h := bind_inv h
  obtain ⟨x, hx, h⟩ := h
  exact ⟨there_of Tryd.func123 (by kernel_rfl) lex_span_f128_body, _, _, h, lex_span_f128_con k s0 at1 x hx⟩
end Go.Proofs.YtnoeedkbadoogaaDoor.P
