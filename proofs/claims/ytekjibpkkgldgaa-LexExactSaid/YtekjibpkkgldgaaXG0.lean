/-
  What the program's functions answer: the printed functions' answers.
-/
import Derived.Test.YtekjibpkkgldgaaXU
import Derived.Test.YtekjibpkkgldgaaAxExt
namespace Go.Proofs.Ytekjibpkkgldgaa.X
open Go Go.AX
/-! internal/stringslite.HasPrefix -/
noncomputable def stringslite_HasPrefix_code : Code := match Try.f103.body with | some c => c | none => .skip
theorem stringslite_HasPrefix_body : Try.f103.body = some stringslite_HasPrefix_code := by kernel_rfl
noncomputable def stringslite_HasPrefix_G {ρ : Type} (k : Nat) : Ans UX ρ := gnil
theorem stringslite_HasPrefix_gok {ρ : Type} (k : Nat) : GOK Try.prog (stringslite_HasPrefix_G (ρ := ρ) k) := gok_nil
noncomputable def stringslite_HasPrefix_cfg {ρ : Type} (k : Nat) : Cfg UX ρ where
  live i := (assoc [(0, [0, 1]), (1, [0, 1])] i).getD []
  boxes i := (assoc [(0, []), (1, [])] i).getD []
  tk i := (assoc [] i).getD []
  n := 18
  labelR l := (assoc [] l).getD 0
  loops := assoc []
  labels := assoc []
  joins := assoc []
  xl i e := match e with
    | .nxt => assoc [] i
    | .ret => assoc [] i
    | .exit j => (assoc [] i).bind fun l => assoc l j
    | .goto j => (assoc [] i).bind fun l => assoc l j
noncomputable def stringslite_HasPrefix_L : List Code := selI [] (loopsOf stringslite_HasPrefix_code)
noncomputable def stringslite_HasPrefix_J : List Code := selI [] (joinsOf stringslite_HasPrefix_code)
noncomputable def stringslite_HasPrefix_S : List Code := scopesOf stringslite_HasPrefix_code
theorem stringslite_HasPrefix_cok {ρ : Type} (k : Nat) : COK (stringslite_HasPrefix_cfg (ρ := ρ) k) (stringslite_HasPrefix_G k) stringslite_HasPrefix_code :=
  cok_of (tl := []) (tj := []) (tb := []) rfl rfl rfl (nil_all (by kernel_rfl)) (nil_all (by kernel_rfl)) (fun p hp => by cases hp)
noncomputable def stringslite_HasPrefix_enc (r : Bool) : AV UU := .pv (.bool r)
noncomputable def stringslite_HasPrefix_dec (v : AV UU) (_ : List (List (AV UU))) : Option Bool :=
asB v fun r0 =>
some r0
theorem stringslite_HasPrefix_dec_enc (v : AV UU) (b : List (List (AV UU))) (r : Bool) (h : stringslite_HasPrefix_dec v b = some r) : v = stringslite_HasPrefix_enc r := by
  unfold stringslite_HasPrefix_dec at h
  replace h := asB_inv h; obtain ⟨r0, rfl, h⟩ := h
  cases h
  rfl
theorem stringslite_HasPrefix_eq (k : Nat) (s0 : ByteArray) (prefix1 : ByteArray) : bodyK UX (stringslite_HasPrefix_cfg k) (stringslite_HasPrefix_G k) Try.f103 [.pv (.str s0), .pv (.str prefix1)] [] stringslite_HasPrefix_dec = stringslite_HasPrefix k s0 prefix1 := by kernel_rfl
theorem stringslite_HasPrefix_con (k : Nat) (s0 : ByteArray) (prefix1 : ByteArray) (r : Bool) (h : stringslite_HasPrefix k s0 prefix1 = some r) : Con (X := UX) Try.prog 103 [.pv (.str s0), .pv (.str prefix1)] [] (stringslite_HasPrefix_enc r) [] :=
  con_of_body xok tok Try.func103 stringslite_HasPrefix_body (stringslite_HasPrefix_gok k) rfl (stringslite_HasPrefix_cok k) (of_decide_eq_true (by kernel_rfl)) stringslite_HasPrefix_dec_enc ((stringslite_HasPrefix_eq k s0 prefix1).trans h)
noncomputable def stringslite_HasPrefix_an {ρ : Type} (k : Nat) : An UX ρ := fun args bx K =>
popA args fun v1 a2 =>
asS v1 fun s0 =>
popA a2 fun v3 a4 =>
asS v3 fun prefix1 =>
popN a4 <|
popN bx <|
(stringslite_HasPrefix k s0 prefix1).bind fun r => K (stringslite_HasPrefix_enc r) []
theorem stringslite_HasPrefix_ok {ρ : Type} (k : Nat) : AnsOK Try.prog 103 (stringslite_HasPrefix_an (ρ := ρ) k) := by
  intro args bx K r h
  unfold stringslite_HasPrefix_an at h
  replace h := popA_inv h; obtain ⟨v1, a2, rfl, h⟩ := h
  replace h := asS_inv h; obtain ⟨s0, rfl, h⟩ := h
  replace h := popA_inv h; obtain ⟨v3, a4, rfl, h⟩ := h
  replace h := asS_inv h; obtain ⟨prefix1, rfl, h⟩ := h
  replace h := popN_inv h; obtain ⟨rfl, h⟩ := h
  replace h := popN_inv h; obtain ⟨rfl, h⟩ := h
  replace h := bind_inv h
  obtain ⟨x, hx, h⟩ := h
  exact ⟨there_of Try.func103 (by kernel_rfl) stringslite_HasPrefix_body, _, _, h, stringslite_HasPrefix_con k s0 prefix1 x hx⟩

/-! strings.HasPrefix -/
noncomputable def strings_HasPrefix_code : Code := match Try.f81.body with | some c => c | none => .skip
theorem strings_HasPrefix_body : Try.f81.body = some strings_HasPrefix_code := by kernel_rfl
noncomputable def strings_HasPrefix_G {ρ : Type} (k : Nat) : Ans UX ρ := gk 103 (stringslite_HasPrefix_an k) (gnil)
theorem strings_HasPrefix_gok {ρ : Type} (k : Nat) : GOK Try.prog (strings_HasPrefix_G (ρ := ρ) k) := gok_cons (stringslite_HasPrefix_ok k) (gok_nil)
noncomputable def strings_HasPrefix_cfg {ρ : Type} (k : Nat) : Cfg UX ρ where
  live i := (assoc [(0, [0, 1]), (1, [0, 1])] i).getD []
  boxes i := (assoc [(0, []), (1, [])] i).getD []
  tk i := (assoc [] i).getD []
  n := 8
  labelR l := (assoc [] l).getD 0
  loops := assoc []
  labels := assoc []
  joins := assoc []
  xl i e := match e with
    | .nxt => assoc [] i
    | .ret => assoc [] i
    | .exit j => (assoc [] i).bind fun l => assoc l j
    | .goto j => (assoc [] i).bind fun l => assoc l j
noncomputable def strings_HasPrefix_L : List Code := selI [] (loopsOf strings_HasPrefix_code)
noncomputable def strings_HasPrefix_J : List Code := selI [] (joinsOf strings_HasPrefix_code)
noncomputable def strings_HasPrefix_S : List Code := scopesOf strings_HasPrefix_code
theorem strings_HasPrefix_cok {ρ : Type} (k : Nat) : COK (strings_HasPrefix_cfg (ρ := ρ) k) (strings_HasPrefix_G k) strings_HasPrefix_code :=
  cok_of (tl := []) (tj := []) (tb := []) rfl rfl rfl (nil_all (by kernel_rfl)) (nil_all (by kernel_rfl)) (fun p hp => by cases hp)
noncomputable def strings_HasPrefix_enc (r : Bool) : AV UU := .pv (.bool r)
noncomputable def strings_HasPrefix_dec (v : AV UU) (_ : List (List (AV UU))) : Option Bool :=
asB v fun r0 =>
some r0
theorem strings_HasPrefix_dec_enc (v : AV UU) (b : List (List (AV UU))) (r : Bool) (h : strings_HasPrefix_dec v b = some r) : v = strings_HasPrefix_enc r := by
  unfold strings_HasPrefix_dec at h
  replace h := asB_inv h; obtain ⟨r0, rfl, h⟩ := h
  cases h
  rfl
theorem strings_HasPrefix_eq (k : Nat) (s0 : ByteArray) (prefix1 : ByteArray) : bodyK UX (strings_HasPrefix_cfg k) (strings_HasPrefix_G k) Try.f81 [.pv (.str s0), .pv (.str prefix1)] [] strings_HasPrefix_dec = strings_HasPrefix k s0 prefix1 := by kernel_rfl
theorem strings_HasPrefix_con (k : Nat) (s0 : ByteArray) (prefix1 : ByteArray) (r : Bool) (h : strings_HasPrefix k s0 prefix1 = some r) : Con (X := UX) Try.prog 81 [.pv (.str s0), .pv (.str prefix1)] [] (strings_HasPrefix_enc r) [] :=
  con_of_body xok tok Try.func81 strings_HasPrefix_body (strings_HasPrefix_gok k) rfl (strings_HasPrefix_cok k) (of_decide_eq_true (by kernel_rfl)) strings_HasPrefix_dec_enc ((strings_HasPrefix_eq k s0 prefix1).trans h)
noncomputable def strings_HasPrefix_an {ρ : Type} (k : Nat) : An UX ρ := fun args bx K =>
popA args fun v1 a2 =>
asS v1 fun s0 =>
popA a2 fun v3 a4 =>
asS v3 fun prefix1 =>
popN a4 <|
popN bx <|
(strings_HasPrefix k s0 prefix1).bind fun r => K (strings_HasPrefix_enc r) []
theorem strings_HasPrefix_ok {ρ : Type} (k : Nat) : AnsOK Try.prog 81 (strings_HasPrefix_an (ρ := ρ) k) := by
  intro args bx K r h
  unfold strings_HasPrefix_an at h
  replace h := popA_inv h; obtain ⟨v1, a2, rfl, h⟩ := h
  replace h := asS_inv h; obtain ⟨s0, rfl, h⟩ := h
  replace h := popA_inv h; obtain ⟨v3, a4, rfl, h⟩ := h
  replace h := asS_inv h; obtain ⟨prefix1, rfl, h⟩ := h
  replace h := popN_inv h; obtain ⟨rfl, h⟩ := h
  replace h := popN_inv h; obtain ⟨rfl, h⟩ := h
  replace h := bind_inv h
  obtain ⟨x, hx, h⟩ := h
  exact ⟨there_of Try.func81 (by kernel_rfl) strings_HasPrefix_body, _, _, h, strings_HasPrefix_con k s0 prefix1 x hx⟩

/-! cadastre/lex.skip$1 -/
noncomputable def lex_skip_1_code : Code := match Try.f80.body with | some c => c | none => .skip
theorem lex_skip_1_body : Try.f80.body = some lex_skip_1_code := by kernel_rfl
noncomputable def lex_skip_1_G {ρ : Type} (k : Nat) : Ans UX ρ := gnil
theorem lex_skip_1_gok {ρ : Type} (k : Nat) : GOK Try.prog (lex_skip_1_G (ρ := ρ) k) := gok_nil
noncomputable def lex_skip_1_cfg {ρ : Type} (k : Nat) : Cfg UX ρ where
  live i := (assoc [(0, [0]), (1, [0])] i).getD []
  boxes i := (assoc [(0, []), (1, [])] i).getD []
  tk i := (assoc [] i).getD []
  n := 17
  labelR l := (assoc [] l).getD 0
  loops := assoc []
  labels := assoc []
  joins := assoc []
  xl i e := match e with
    | .nxt => assoc [] i
    | .ret => assoc [] i
    | .exit j => (assoc [] i).bind fun l => assoc l j
    | .goto j => (assoc [] i).bind fun l => assoc l j
noncomputable def lex_skip_1_L : List Code := selI [] (loopsOf lex_skip_1_code)
noncomputable def lex_skip_1_J : List Code := selI [] (joinsOf lex_skip_1_code)
noncomputable def lex_skip_1_S : List Code := scopesOf lex_skip_1_code
theorem lex_skip_1_cok {ρ : Type} (k : Nat) : COK (lex_skip_1_cfg (ρ := ρ) k) (lex_skip_1_G k) lex_skip_1_code :=
  cok_of (tl := []) (tj := []) (tb := []) rfl rfl rfl (nil_all (by kernel_rfl)) (nil_all (by kernel_rfl)) (fun p hp => by cases hp)
noncomputable def lex_skip_1_enc (r : Bool) : AV UU := .pv (.bool r)
noncomputable def lex_skip_1_dec (v : AV UU) (_ : List (List (AV UU))) : Option Bool :=
asB v fun r0 =>
some r0
theorem lex_skip_1_dec_enc (v : AV UU) (b : List (List (AV UU))) (r : Bool) (h : lex_skip_1_dec v b = some r) : v = lex_skip_1_enc r := by
  unfold lex_skip_1_dec at h
  replace h := asB_inv h; obtain ⟨r0, rfl, h⟩ := h
  cases h
  rfl
theorem lex_skip_1_eq (k : Nat) (c0 : Int) : bodyK UX (lex_skip_1_cfg k) (lex_skip_1_G k) Try.f80 [.pv (.int .u8 c0)] [] lex_skip_1_dec = lex_skip_1 k c0 := by kernel_rfl
theorem lex_skip_1_con (k : Nat) (c0 : Int) (r : Bool) (h : lex_skip_1 k c0 = some r) : Con (X := UX) Try.prog 80 [.pv (.int .u8 c0)] [] (lex_skip_1_enc r) [] :=
  con_of_body xok tok Try.func80 lex_skip_1_body (lex_skip_1_gok k) rfl (lex_skip_1_cok k) (of_decide_eq_true (by kernel_rfl)) lex_skip_1_dec_enc ((lex_skip_1_eq k c0).trans h)
noncomputable def lex_skip_1_an {ρ : Type} (k : Nat) : An UX ρ := fun args bx K =>
popA args fun v1 a2 =>
asI .u8 v1 fun c0 =>
popN a2 <|
popN bx <|
(lex_skip_1 k c0).bind fun r => K (lex_skip_1_enc r) []
theorem lex_skip_1_ok {ρ : Type} (k : Nat) : AnsOK Try.prog 80 (lex_skip_1_an (ρ := ρ) k) := by
  intro args bx K r h
  unfold lex_skip_1_an at h
  replace h := popA_inv h; obtain ⟨v1, a2, rfl, h⟩ := h
  replace h := asI_inv h; obtain ⟨c0, rfl, h⟩ := h
  replace h := popN_inv h; obtain ⟨rfl, h⟩ := h
  replace h := popN_inv h; obtain ⟨rfl, h⟩ := h
  replace h := bind_inv h
  obtain ⟨x, hx, h⟩ := h
  exact ⟨there_of Try.func80 (by kernel_rfl) lex_skip_1_body, _, _, h, lex_skip_1_con k c0 x hx⟩

/-! cadastre/lex.span -/
noncomputable def lex_span_f80_code : Code := match Try.f79.body with | some c => c | none => .skip
theorem lex_span_f80_body : Try.f79.body = some lex_span_f80_code := by kernel_rfl
noncomputable def lex_span_f80_G {ρ : Type} (k : Nat) : Ans UX ρ := gk 80 (lex_skip_1_an k) (gnil)
theorem lex_span_f80_gok {ρ : Type} (k : Nat) : GOK Try.prog (lex_span_f80_G (ρ := ρ) k) := gok_cons (lex_skip_1_ok k) (gok_nil)
noncomputable def lex_span_f80_l1_s {ρ : Type} (k : Nat) : Run UX ρ := fun s K =>
popS 0 s.env fun v1 e2 =>
asS v1 fun s0 =>
popS 1 e2 fun v3 e4 =>
asI .i64 v3 fun at1 =>
popS 2 e4 fun v5 e6 =>
asF 80 v5 fun fa7 fb8 =>
popN fa7 <|
popN fb8 <|
popN e6 <|
popN s.hp <|
lex_span_f80_l1 k (fun at1 => K (.exit 0) ⟨[(1, .pv (.int .i64 at1))], []⟩) k s0 at1
noncomputable def lex_span_f80_cfg {ρ : Type} (k : Nat) : Cfg UX ρ where
  live i := (assoc [(0, [0, 1, 2]), (1, [0, 1, 2]), (2, [0, 1, 2]), (3, [1])] i).getD []
  boxes i := (assoc [(0, []), (1, []), (2, []), (3, [])] i).getD []
  tk i := (assoc [] i).getD []
  n := 21
  labelR l := (assoc [] l).getD 0
  loops := assoc [(1, lex_span_f80_l1_s k)]
  labels := assoc []
  joins := assoc []
  xl i e := match e with
    | .nxt => assoc [] i
    | .ret => assoc [] i
    | .exit j => (assoc [(1, [(0, ([1], []))])] i).bind fun l => assoc l j
    | .goto j => (assoc [] i).bind fun l => assoc l j
noncomputable def lex_span_f80_L : List Code := selI [1] (loopsOf lex_span_f80_code)
noncomputable def lex_span_f80_J : List Code := selI [] (joinsOf lex_span_f80_code)
noncomputable def lex_span_f80_S : List Code := scopesOf lex_span_f80_code
theorem lex_span_f80_l1_eq0 {ρ : Type} (k : Nat) (K : Ex → St UU → Option ρ) : ∀ (n : Nat) (v : ByteArray × Int), iterK UX (fun s => s.at (lex_span_f80_cfg (ρ := ρ) k).live (lex_span_f80_cfg (ρ := ρ) k).boxes (some 1)) (exec UX (lex_span_f80_cfg k) (lex_span_f80_G k) (lex_span_f80_L.getD 0 .skip)) n ⟨[(0, .pv (.str v.1)), (1, .pv (.int .i64 v.2)), (2, .fn 80 [] [])], []⟩ (nrmK UX (lex_span_f80_cfg k) 1 K) = lex_span_f80_l1 k (fun at1 => K (.exit 0) ⟨[(1, .pv (.int .i64 at1))], []⟩) n v.1 v.2 :=
  iter_rec (X := UX) (fun v => ⟨[(0, .pv (.str v.1)), (1, .pv (.int .i64 v.2)), (2, .fn 80 [] [])], []⟩) (fun rec v => lex_span_f80_l1_b k (fun at1 => K (.exit 0) ⟨[(1, .pv (.int .i64 at1))], []⟩) (fun s0 at1 => rec (s0, at1)) v.1 v.2) (fun n v => lex_span_f80_l1 k (fun at1 => K (.exit 0) ⟨[(1, .pv (.int .i64 at1))], []⟩) n v.1 v.2) (fun n v => by kernel_rfl) (fun _ => rfl) (fun _ _ => rfl)
theorem lex_span_f80_l1_ok0 {ρ : Type} (k : Nat) : IterOK UX (lex_span_f80_cfg (ρ := ρ) k) (lex_span_f80_G k) (lex_span_f80_L.getD 0 .skip) 1 (lex_span_f80_l1_s k) := by
  intro s K r h
  obtain ⟨env, hp⟩ := s
  unfold lex_span_f80_l1_s at h
  replace h := popS_inv h; obtain ⟨v1, e2, rfl, h⟩ := h
  replace h := asS_inv h; obtain ⟨s0, rfl, h⟩ := h
  replace h := popS_inv h; obtain ⟨v3, e4, rfl, h⟩ := h
  replace h := asI_inv h; obtain ⟨at1, rfl, h⟩ := h
  replace h := popS_inv h; obtain ⟨v5, e6, rfl, h⟩ := h
  replace h := asF_inv h; obtain ⟨fa7, fb8, rfl, h⟩ := h
  replace h := popN_inv h; obtain ⟨rfl, h⟩ := h
  replace h := popN_inv h; obtain ⟨rfl, h⟩ := h
  replace h := popN_inv h; obtain ⟨rfl, h⟩ := h
  replace h := popN_inv h; obtain ⟨rfl, h⟩ := h
  exact ⟨k, (lex_span_f80_l1_eq0 k K k (s0, at1)).trans h⟩
theorem lex_span_f80_cok {ρ : Type} (k : Nat) : COK (lex_span_f80_cfg (ρ := ρ) k) (lex_span_f80_G k) lex_span_f80_code :=
  cok_of (tl := [(1, lex_span_f80_l1_s k)]) (tj := []) (tb := []) rfl rfl rfl (all_nth 1 (by kernel_rfl) ⟨iter_case (by kernel_rfl) rfl (lex_span_f80_l1_ok0 k), trivial⟩) (nil_all (by kernel_rfl)) (fun p hp => by cases hp)
noncomputable def lex_span_f80_enc (r : Int) : AV UU := .pv (.int .i64 r)
noncomputable def lex_span_f80_dec (v : AV UU) (_ : List (List (AV UU))) : Option Int :=
asI .i64 v fun r0 =>
some r0
theorem lex_span_f80_dec_enc (v : AV UU) (b : List (List (AV UU))) (r : Int) (h : lex_span_f80_dec v b = some r) : v = lex_span_f80_enc r := by
  unfold lex_span_f80_dec at h
  replace h := asI_inv h; obtain ⟨r0, rfl, h⟩ := h
  cases h
  rfl
theorem lex_span_f80_eq (k : Nat) (s0 : ByteArray) (at1 : Int) : bodyK UX (lex_span_f80_cfg k) (lex_span_f80_G k) Try.f79 [.pv (.str s0), .pv (.int .i64 at1), .fn 80 [] []] [] lex_span_f80_dec = lex_span_f80 k s0 at1 := by kernel_rfl
theorem lex_span_f80_con (k : Nat) (s0 : ByteArray) (at1 : Int) (r : Int) (h : lex_span_f80 k s0 at1 = some r) : Con (X := UX) Try.prog 79 [.pv (.str s0), .pv (.int .i64 at1), .fn 80 [] []] [] (lex_span_f80_enc r) [] :=
  con_of_body xok tok Try.func79 lex_span_f80_body (lex_span_f80_gok k) rfl (lex_span_f80_cok k) (of_decide_eq_true (by kernel_rfl)) lex_span_f80_dec_enc ((lex_span_f80_eq k s0 at1).trans h)
noncomputable def lex_span_f80_an {ρ : Type} (k : Nat) : An UX ρ := fun args bx K =>
popA args fun v1 a2 =>
asS v1 fun s0 =>
popA a2 fun v3 a4 =>
asI .i64 v3 fun at1 =>
popA a4 fun v5 a6 =>
asF 80 v5 fun fa fb =>
popN fa <|
popN fb <|
popN a6 <|
popN bx <|
(lex_span_f80 k s0 at1).bind fun r => K (lex_span_f80_enc r) []
theorem lex_span_f80_ok {ρ : Type} (k : Nat) : AnsOK Try.prog 79 (lex_span_f80_an (ρ := ρ) k) := by
  intro args bx K r h
  unfold lex_span_f80_an at h
  replace h := popA_inv h; obtain ⟨v1, a2, rfl, h⟩ := h
  replace h := asS_inv h; obtain ⟨s0, rfl, h⟩ := h
  replace h := popA_inv h; obtain ⟨v3, a4, rfl, h⟩ := h
  replace h := asI_inv h; obtain ⟨at1, rfl, h⟩ := h
  replace h := popA_inv h; obtain ⟨v5, a6, rfl, h⟩ := h
  replace h := asF_inv h; obtain ⟨fa, fb, rfl, h⟩ := h
  replace h := popN_inv h; obtain ⟨rfl, h⟩ := h
  replace h := popN_inv h; obtain ⟨rfl, h⟩ := h
  replace h := popN_inv h; obtain ⟨rfl, h⟩ := h
  replace h := popN_inv h; obtain ⟨rfl, h⟩ := h
  replace h := bind_inv h
  obtain ⟨x, hx, h⟩ := h
  exact ⟨there_of Try.func79 (by kernel_rfl) lex_span_f80_body, _, _, h, lex_span_f80_con k s0 at1 x hx⟩

/-! cadastre/lex.skip$2 -/
noncomputable def lex_skip_2_code : Code := match Try.f82.body with | some c => c | none => .skip
theorem lex_skip_2_body : Try.f82.body = some lex_skip_2_code := by kernel_rfl
noncomputable def lex_skip_2_G {ρ : Type} (k : Nat) : Ans UX ρ := gnil
theorem lex_skip_2_gok {ρ : Type} (k : Nat) : GOK Try.prog (lex_skip_2_G (ρ := ρ) k) := gok_nil
noncomputable def lex_skip_2_cfg {ρ : Type} (k : Nat) : Cfg UX ρ where
  live i := (assoc [(0, [0]), (1, [0])] i).getD []
  boxes i := (assoc [(0, []), (1, [])] i).getD []
  tk i := (assoc [] i).getD []
  n := 5
  labelR l := (assoc [] l).getD 0
  loops := assoc []
  labels := assoc []
  joins := assoc []
  xl i e := match e with
    | .nxt => assoc [] i
    | .ret => assoc [] i
    | .exit j => (assoc [] i).bind fun l => assoc l j
    | .goto j => (assoc [] i).bind fun l => assoc l j
noncomputable def lex_skip_2_L : List Code := selI [] (loopsOf lex_skip_2_code)
noncomputable def lex_skip_2_J : List Code := selI [] (joinsOf lex_skip_2_code)
noncomputable def lex_skip_2_S : List Code := scopesOf lex_skip_2_code
theorem lex_skip_2_cok {ρ : Type} (k : Nat) : COK (lex_skip_2_cfg (ρ := ρ) k) (lex_skip_2_G k) lex_skip_2_code :=
  cok_of (tl := []) (tj := []) (tb := []) rfl rfl rfl (nil_all (by kernel_rfl)) (nil_all (by kernel_rfl)) (fun p hp => by cases hp)
noncomputable def lex_skip_2_enc (r : Bool) : AV UU := .pv (.bool r)
noncomputable def lex_skip_2_dec (v : AV UU) (_ : List (List (AV UU))) : Option Bool :=
asB v fun r0 =>
some r0
theorem lex_skip_2_dec_enc (v : AV UU) (b : List (List (AV UU))) (r : Bool) (h : lex_skip_2_dec v b = some r) : v = lex_skip_2_enc r := by
  unfold lex_skip_2_dec at h
  replace h := asB_inv h; obtain ⟨r0, rfl, h⟩ := h
  cases h
  rfl
theorem lex_skip_2_eq (k : Nat) (c0 : Int) : bodyK UX (lex_skip_2_cfg k) (lex_skip_2_G k) Try.f82 [.pv (.int .u8 c0)] [] lex_skip_2_dec = lex_skip_2 k c0 := by kernel_rfl
theorem lex_skip_2_con (k : Nat) (c0 : Int) (r : Bool) (h : lex_skip_2 k c0 = some r) : Con (X := UX) Try.prog 82 [.pv (.int .u8 c0)] [] (lex_skip_2_enc r) [] :=
  con_of_body xok tok Try.func82 lex_skip_2_body (lex_skip_2_gok k) rfl (lex_skip_2_cok k) (of_decide_eq_true (by kernel_rfl)) lex_skip_2_dec_enc ((lex_skip_2_eq k c0).trans h)
noncomputable def lex_skip_2_an {ρ : Type} (k : Nat) : An UX ρ := fun args bx K =>
popA args fun v1 a2 =>
asI .u8 v1 fun c0 =>
popN a2 <|
popN bx <|
(lex_skip_2 k c0).bind fun r => K (lex_skip_2_enc r) []
theorem lex_skip_2_ok {ρ : Type} (k : Nat) : AnsOK Try.prog 82 (lex_skip_2_an (ρ := ρ) k) := by
  intro args bx K r h
  unfold lex_skip_2_an at h
  replace h := popA_inv h; obtain ⟨v1, a2, rfl, h⟩ := h
  replace h := asI_inv h; obtain ⟨c0, rfl, h⟩ := h
  replace h := popN_inv h; obtain ⟨rfl, h⟩ := h
  replace h := popN_inv h; obtain ⟨rfl, h⟩ := h
  replace h := bind_inv h
  obtain ⟨x, hx, h⟩ := h
  exact ⟨there_of Try.func82 (by kernel_rfl) lex_skip_2_body, _, _, h, lex_skip_2_con k c0 x hx⟩

/-! cadastre/lex.span -/
noncomputable def lex_span_f82_code : Code := match Try.f79.body with | some c => c | none => .skip
theorem lex_span_f82_body : Try.f79.body = some lex_span_f82_code := by kernel_rfl
noncomputable def lex_span_f82_G {ρ : Type} (k : Nat) : Ans UX ρ := gk 82 (lex_skip_2_an k) (gnil)
theorem lex_span_f82_gok {ρ : Type} (k : Nat) : GOK Try.prog (lex_span_f82_G (ρ := ρ) k) := gok_cons (lex_skip_2_ok k) (gok_nil)
noncomputable def lex_span_f82_l1_s {ρ : Type} (k : Nat) : Run UX ρ := fun s K =>
popS 0 s.env fun v1 e2 =>
asS v1 fun s0 =>
popS 1 e2 fun v3 e4 =>
asI .i64 v3 fun at1 =>
popS 2 e4 fun v5 e6 =>
asF 82 v5 fun fa7 fb8 =>
popN fa7 <|
popN fb8 <|
popN e6 <|
popN s.hp <|
lex_span_f82_l1 k (fun at1 => K (.exit 0) ⟨[(1, .pv (.int .i64 at1))], []⟩) k s0 at1
noncomputable def lex_span_f82_cfg {ρ : Type} (k : Nat) : Cfg UX ρ where
  live i := (assoc [(0, [0, 1, 2]), (1, [0, 1, 2]), (2, [0, 1, 2]), (3, [1])] i).getD []
  boxes i := (assoc [(0, []), (1, []), (2, []), (3, [])] i).getD []
  tk i := (assoc [] i).getD []
  n := 21
  labelR l := (assoc [] l).getD 0
  loops := assoc [(1, lex_span_f82_l1_s k)]
  labels := assoc []
  joins := assoc []
  xl i e := match e with
    | .nxt => assoc [] i
    | .ret => assoc [] i
    | .exit j => (assoc [(1, [(0, ([1], []))])] i).bind fun l => assoc l j
    | .goto j => (assoc [] i).bind fun l => assoc l j
noncomputable def lex_span_f82_L : List Code := selI [1] (loopsOf lex_span_f82_code)
noncomputable def lex_span_f82_J : List Code := selI [] (joinsOf lex_span_f82_code)
noncomputable def lex_span_f82_S : List Code := scopesOf lex_span_f82_code
theorem lex_span_f82_l1_eq0 {ρ : Type} (k : Nat) (K : Ex → St UU → Option ρ) : ∀ (n : Nat) (v : ByteArray × Int), iterK UX (fun s => s.at (lex_span_f82_cfg (ρ := ρ) k).live (lex_span_f82_cfg (ρ := ρ) k).boxes (some 1)) (exec UX (lex_span_f82_cfg k) (lex_span_f82_G k) (lex_span_f82_L.getD 0 .skip)) n ⟨[(0, .pv (.str v.1)), (1, .pv (.int .i64 v.2)), (2, .fn 82 [] [])], []⟩ (nrmK UX (lex_span_f82_cfg k) 1 K) = lex_span_f82_l1 k (fun at1 => K (.exit 0) ⟨[(1, .pv (.int .i64 at1))], []⟩) n v.1 v.2 :=
  iter_rec (X := UX) (fun v => ⟨[(0, .pv (.str v.1)), (1, .pv (.int .i64 v.2)), (2, .fn 82 [] [])], []⟩) (fun rec v => lex_span_f82_l1_b k (fun at1 => K (.exit 0) ⟨[(1, .pv (.int .i64 at1))], []⟩) (fun s0 at1 => rec (s0, at1)) v.1 v.2) (fun n v => lex_span_f82_l1 k (fun at1 => K (.exit 0) ⟨[(1, .pv (.int .i64 at1))], []⟩) n v.1 v.2) (fun n v => by kernel_rfl) (fun _ => rfl) (fun _ _ => rfl)
theorem lex_span_f82_l1_ok0 {ρ : Type} (k : Nat) : IterOK UX (lex_span_f82_cfg (ρ := ρ) k) (lex_span_f82_G k) (lex_span_f82_L.getD 0 .skip) 1 (lex_span_f82_l1_s k) := by
  intro s K r h
  obtain ⟨env, hp⟩ := s
  unfold lex_span_f82_l1_s at h
  replace h := popS_inv h; obtain ⟨v1, e2, rfl, h⟩ := h
  replace h := asS_inv h; obtain ⟨s0, rfl, h⟩ := h
  replace h := popS_inv h; obtain ⟨v3, e4, rfl, h⟩ := h
  replace h := asI_inv h; obtain ⟨at1, rfl, h⟩ := h
  replace h := popS_inv h; obtain ⟨v5, e6, rfl, h⟩ := h
  replace h := asF_inv h; obtain ⟨fa7, fb8, rfl, h⟩ := h
  replace h := popN_inv h; obtain ⟨rfl, h⟩ := h
  replace h := popN_inv h; obtain ⟨rfl, h⟩ := h
  replace h := popN_inv h; obtain ⟨rfl, h⟩ := h
  replace h := popN_inv h; obtain ⟨rfl, h⟩ := h
  exact ⟨k, (lex_span_f82_l1_eq0 k K k (s0, at1)).trans h⟩
theorem lex_span_f82_cok {ρ : Type} (k : Nat) : COK (lex_span_f82_cfg (ρ := ρ) k) (lex_span_f82_G k) lex_span_f82_code :=
  cok_of (tl := [(1, lex_span_f82_l1_s k)]) (tj := []) (tb := []) rfl rfl rfl (all_nth 1 (by kernel_rfl) ⟨iter_case (by kernel_rfl) rfl (lex_span_f82_l1_ok0 k), trivial⟩) (nil_all (by kernel_rfl)) (fun p hp => by cases hp)
noncomputable def lex_span_f82_enc (r : Int) : AV UU := .pv (.int .i64 r)
noncomputable def lex_span_f82_dec (v : AV UU) (_ : List (List (AV UU))) : Option Int :=
asI .i64 v fun r0 =>
some r0
theorem lex_span_f82_dec_enc (v : AV UU) (b : List (List (AV UU))) (r : Int) (h : lex_span_f82_dec v b = some r) : v = lex_span_f82_enc r := by
  unfold lex_span_f82_dec at h
  replace h := asI_inv h; obtain ⟨r0, rfl, h⟩ := h
  cases h
  rfl
theorem lex_span_f82_eq (k : Nat) (s0 : ByteArray) (at1 : Int) : bodyK UX (lex_span_f82_cfg k) (lex_span_f82_G k) Try.f79 [.pv (.str s0), .pv (.int .i64 at1), .fn 82 [] []] [] lex_span_f82_dec = lex_span_f82 k s0 at1 := by kernel_rfl
theorem lex_span_f82_con (k : Nat) (s0 : ByteArray) (at1 : Int) (r : Int) (h : lex_span_f82 k s0 at1 = some r) : Con (X := UX) Try.prog 79 [.pv (.str s0), .pv (.int .i64 at1), .fn 82 [] []] [] (lex_span_f82_enc r) [] :=
  con_of_body xok tok Try.func79 lex_span_f82_body (lex_span_f82_gok k) rfl (lex_span_f82_cok k) (of_decide_eq_true (by kernel_rfl)) lex_span_f82_dec_enc ((lex_span_f82_eq k s0 at1).trans h)
noncomputable def lex_span_f82_an {ρ : Type} (k : Nat) : An UX ρ := fun args bx K =>
popA args fun v1 a2 =>
asS v1 fun s0 =>
popA a2 fun v3 a4 =>
asI .i64 v3 fun at1 =>
popA a4 fun v5 a6 =>
asF 82 v5 fun fa fb =>
popN fa <|
popN fb <|
popN a6 <|
popN bx <|
(lex_span_f82 k s0 at1).bind fun r => K (lex_span_f82_enc r) []
theorem lex_span_f82_ok {ρ : Type} (k : Nat) : AnsOK Try.prog 79 (lex_span_f82_an (ρ := ρ) k) := by
  intro args bx K r h
  unfold lex_span_f82_an at h
  replace h := popA_inv h; obtain ⟨v1, a2, rfl, h⟩ := h
  replace h := asS_inv h; obtain ⟨s0, rfl, h⟩ := h
  replace h := popA_inv h; obtain ⟨v3, a4, rfl, h⟩ := h
  replace h := asI_inv h; obtain ⟨at1, rfl, h⟩ := h
  replace h := popA_inv h; obtain ⟨v5, a6, rfl, h⟩ := h
  replace h := asF_inv h; obtain ⟨fa, fb, rfl, h⟩ := h
  replace h := popN_inv h; obtain ⟨rfl, h⟩ := h
  replace h := popN_inv h; obtain ⟨rfl, h⟩ := h
  replace h := popN_inv h; obtain ⟨rfl, h⟩ := h
  replace h := popN_inv h; obtain ⟨rfl, h⟩ := h
  replace h := bind_inv h
  obtain ⟨x, hx, h⟩ := h
  exact ⟨there_of Try.func79 (by kernel_rfl) lex_span_f82_body, _, _, h, lex_span_f82_con k s0 at1 x hx⟩

/-! cadastre/lex.skip -/
noncomputable def lex_skip_code : Code := match Try.f62.body with | some c => c | none => .skip
theorem lex_skip_body : Try.f62.body = some lex_skip_code := by kernel_rfl
noncomputable def lex_skip_G {ρ : Type} (k : Nat) : Ans UX ρ := gk 79 (gsel [0, 0, 82] (lex_span_f80_an k) (lex_span_f82_an k)) (gk 81 (strings_HasPrefix_an k) (gnil))
theorem lex_skip_gok {ρ : Type} (k : Nat) : GOK Try.prog (lex_skip_G (ρ := ρ) k) := gok_cons (gsel_ok (lex_span_f80_ok k) (lex_span_f82_ok k)) (gok_cons (strings_HasPrefix_ok k) (gok_nil))
noncomputable def lex_skip_j1_s {ρ : Type} (k : Nat) : Run UX ρ := fun s K =>
popS 0 s.env fun v1 e2 =>
asS v1 fun s0 =>
popS 1 e2 fun v3 e4 =>
asI .i64 v3 fun at1 =>
popN e4 <|
popN s.hp <|
lex_skip_j1 k (fun s0 at1 => K (.goto 0) ⟨[(0, .pv (.str s0)), (1, .pv (.int .i64 at1))], []⟩) (fun t4 => K .ret ⟨[(4, .pv (.int .i64 t4))], []⟩) s0 at1
noncomputable def lex_skip_g0_s {ρ : Type} (k : Nat) : Run UX ρ := fun s K =>
popS 0 s.env fun v1 e2 =>
asS v1 fun s0 =>
popS 1 e2 fun v3 e4 =>
asI .i64 v3 fun at1 =>
popN e4 <|
popN s.hp <|
lex_skip_g0 k (fun t4 => K .ret ⟨[(4, .pv (.int .i64 t4))], []⟩) k s0 at1
noncomputable def lex_skip_cfg {ρ : Type} (k : Nat) : Cfg UX ρ where
  live i := (assoc [(0, [0, 1]), (1, [0, 1]), (2, [0, 1]), (3, [0, 1]), (4, [1])] i).getD []
  boxes i := (assoc [(0, []), (1, []), (2, []), (3, []), (4, [])] i).getD []
  tk i := (assoc [] i).getD []
  n := 16
  labelR l := (assoc [(0, 1)] l).getD 0
  loops := assoc []
  labels := assoc [(0, lex_skip_g0_s k)]
  joins := assoc [(1, lex_skip_j1_s k)]
  xl i e := match e with
    | .nxt => assoc [] i
    | .ret => assoc [(1, ([4], [])), (1, ([4], []))] i
    | .exit j => (assoc [] i).bind fun l => assoc l j
    | .goto j => (assoc [(1, [(0, ([0, 1], []))])] i).bind fun l => assoc l j
noncomputable def lex_skip_L : List Code := selI [] (loopsOf lex_skip_code)
noncomputable def lex_skip_J : List Code := selI [1] (joinsOf lex_skip_code)
noncomputable def lex_skip_S : List Code := scopesOf lex_skip_code
theorem lex_skip_j1_eq0 {ρ : Type} (k : Nat) (K : Ex → St UU → Option ρ) (s0 : ByteArray) (at1 : Int) : exec UX (lex_skip_cfg k) (lex_skip_G k) (lex_skip_J.getD 0 .skip) ⟨[(0, .pv (.str s0)), (1, .pv (.int .i64 at1))], []⟩ (nrmK UX (lex_skip_cfg k) 1 K) = lex_skip_j1 k (fun s0 at1 => K (.goto 0) ⟨[(0, .pv (.str s0)), (1, .pv (.int .i64 at1))], []⟩) (fun t4 => K .ret ⟨[(4, .pv (.int .i64 t4))], []⟩) s0 at1 := by kernel_rfl
theorem lex_skip_j1_ok0 {ρ : Type} (k : Nat) : JoinOK UX (lex_skip_cfg (ρ := ρ) k) (lex_skip_G k) (lex_skip_J.getD 0 .skip) 1 (lex_skip_j1_s k) := by
  intro s K r h
  obtain ⟨env, hp⟩ := s
  unfold lex_skip_j1_s at h
  replace h := popS_inv h; obtain ⟨v1, e2, rfl, h⟩ := h
  replace h := asS_inv h; obtain ⟨s0, rfl, h⟩ := h
  replace h := popS_inv h; obtain ⟨v3, e4, rfl, h⟩ := h
  replace h := asI_inv h; obtain ⟨at1, rfl, h⟩ := h
  replace h := popN_inv h; obtain ⟨rfl, h⟩ := h
  replace h := popN_inv h; obtain ⟨rfl, h⟩ := h
  exact (lex_skip_j1_eq0 k K s0 at1).trans h
noncomputable def lex_skip_g0_f0 {ρ : Type} (k : Nat) : Run UX ρ := (suff UX (lex_skip_cfg k) (lex_skip_G k) (lex_skip_S.getD 0 .skip) 0).getD fun _ _ => none
theorem lex_skip_g0_eq0 {ρ : Type} (k : Nat) (K : Ex → St UU → Option ρ) : ∀ (n : Nat) (v : ByteArray × Int), scopeN UX (fun l s => s.at (lex_skip_cfg (ρ := ρ) k).live (lex_skip_cfg (ρ := ρ) k).boxes (some ((lex_skip_cfg (ρ := ρ) k).labelR l))) (suff UX (lex_skip_cfg k) (lex_skip_G k) (lex_skip_S.getD 0 .skip)) (fun l => ((lex_skip_cfg (ρ := ρ) k).labels l).isSome) n (lex_skip_g0_f0 k) ⟨[(0, .pv (.str v.1)), (1, .pv (.int .i64 v.2))], []⟩ (nrmK UX (lex_skip_cfg k) ((lex_skip_cfg (ρ := ρ) k).labelR 0) K) = lex_skip_g0 k (fun t4 => K .ret ⟨[(4, .pv (.int .i64 t4))], []⟩) n v.1 v.2 :=
  scope_rec (X := UX) (fun _ => lex_skip_g0_f0 k) (fun v => ⟨[(0, .pv (.str v.1)), (1, .pv (.int .i64 v.2))], []⟩) (fun rec v => lex_skip_g0_b k (fun t4 => K .ret ⟨[(4, .pv (.int .i64 t4))], []⟩) (fun s0 at1 => rec (s0, at1)) v.1 v.2) (fun n v => lex_skip_g0 k (fun t4 => K .ret ⟨[(4, .pv (.int .i64 t4))], []⟩) n v.1 v.2) (fun n v => by kernel_rfl) (fun _ => rfl) (fun _ _ => rfl)
theorem lex_skip_g0_ok0 {ρ : Type} (k : Nat) : LabOK UX (lex_skip_cfg (ρ := ρ) k) (lex_skip_G k) (lex_skip_S.getD 0 .skip) 0 (lex_skip_g0_s k) := by
  intro f hf s K r h
  have hf : lex_skip_g0_f0 k = f := by unfold lex_skip_g0_f0; rw [hf]; rfl
  subst hf
  obtain ⟨env, hp⟩ := s
  unfold lex_skip_g0_s at h
  replace h := popS_inv h; obtain ⟨v1, e2, rfl, h⟩ := h
  replace h := asS_inv h; obtain ⟨s0, rfl, h⟩ := h
  replace h := popS_inv h; obtain ⟨v3, e4, rfl, h⟩ := h
  replace h := asI_inv h; obtain ⟨at1, rfl, h⟩ := h
  replace h := popN_inv h; obtain ⟨rfl, h⟩ := h
  replace h := popN_inv h; obtain ⟨rfl, h⟩ := h
  exact ⟨k, (lex_skip_g0_eq0 k K k (s0, at1)).trans h⟩
theorem lex_skip_cok {ρ : Type} (k : Nat) : COK (lex_skip_cfg (ρ := ρ) k) (lex_skip_G k) lex_skip_code :=
  cok_of (tl := []) (tj := [(1, lex_skip_j1_s k)]) (tb := [(0, lex_skip_g0_s k)]) rfl rfl rfl (nil_all (by kernel_rfl)) (all_nth 1 (by kernel_rfl) ⟨join_case (by kernel_rfl) rfl (lex_skip_j1_ok0 k), trivial⟩) (fun p hp => by
    simp only [List.mem_cons, List.not_mem_nil, or_false] at hp
    subst hp
    · exact all_nth 1 (by kernel_rfl) ⟨lex_skip_g0_ok0 k, trivial⟩)
noncomputable def lex_skip_enc (r : Int) : AV UU := .pv (.int .i64 r)
noncomputable def lex_skip_dec (v : AV UU) (_ : List (List (AV UU))) : Option Int :=
asI .i64 v fun r0 =>
some r0
theorem lex_skip_dec_enc (v : AV UU) (b : List (List (AV UU))) (r : Int) (h : lex_skip_dec v b = some r) : v = lex_skip_enc r := by
  unfold lex_skip_dec at h
  replace h := asI_inv h; obtain ⟨r0, rfl, h⟩ := h
  cases h
  rfl
theorem lex_skip_eq (k : Nat) (s0 : ByteArray) (at1 : Int) : bodyK UX (lex_skip_cfg k) (lex_skip_G k) Try.f62 [.pv (.str s0), .pv (.int .i64 at1)] [] lex_skip_dec = lex_skip k s0 at1 := by kernel_rfl
theorem lex_skip_con (k : Nat) (s0 : ByteArray) (at1 : Int) (r : Int) (h : lex_skip k s0 at1 = some r) : Con (X := UX) Try.prog 62 [.pv (.str s0), .pv (.int .i64 at1)] [] (lex_skip_enc r) [] :=
  con_of_body xok tok Try.func62 lex_skip_body (lex_skip_gok k) rfl (lex_skip_cok k) (of_decide_eq_true (by kernel_rfl)) lex_skip_dec_enc ((lex_skip_eq k s0 at1).trans h)
noncomputable def lex_skip_an {ρ : Type} (k : Nat) : An UX ρ := fun args bx K =>
popA args fun v1 a2 =>
asS v1 fun s0 =>
popA a2 fun v3 a4 =>
asI .i64 v3 fun at1 =>
popN a4 <|
popN bx <|
(lex_skip k s0 at1).bind fun r => K (lex_skip_enc r) []
theorem lex_skip_ok {ρ : Type} (k : Nat) : AnsOK Try.prog 62 (lex_skip_an (ρ := ρ) k) := by
  intro args bx K r h
  unfold lex_skip_an at h
  replace h := popA_inv h; obtain ⟨v1, a2, rfl, h⟩ := h
  replace h := asS_inv h; obtain ⟨s0, rfl, h⟩ := h
  replace h := popA_inv h; obtain ⟨v3, a4, rfl, h⟩ := h
  replace h := asI_inv h; obtain ⟨at1, rfl, h⟩ := h
  replace h := popN_inv h; obtain ⟨rfl, h⟩ := h
  replace h := popN_inv h; obtain ⟨rfl, h⟩ := h
  replace h := bind_inv h
  obtain ⟨x, hx, h⟩ := h
  exact ⟨there_of Try.func62 (by kernel_rfl) lex_skip_body, _, _, h, lex_skip_con k s0 at1 x hx⟩

/-! cadastre/lex.letter -/
noncomputable def lex_letter_code : Code := match Try.f83.body with | some c => c | none => .skip
theorem lex_letter_body : Try.f83.body = some lex_letter_code := by kernel_rfl
noncomputable def lex_letter_G {ρ : Type} (k : Nat) : Ans UX ρ := gnil
theorem lex_letter_gok {ρ : Type} (k : Nat) : GOK Try.prog (lex_letter_G (ρ := ρ) k) := gok_nil
noncomputable def lex_letter_cfg {ρ : Type} (k : Nat) : Cfg UX ρ where
  live i := (assoc [(0, [0]), (1, [0])] i).getD []
  boxes i := (assoc [(0, []), (1, [])] i).getD []
  tk i := (assoc [] i).getD []
  n := 21
  labelR l := (assoc [] l).getD 0
  loops := assoc []
  labels := assoc []
  joins := assoc []
  xl i e := match e with
    | .nxt => assoc [] i
    | .ret => assoc [] i
    | .exit j => (assoc [] i).bind fun l => assoc l j
    | .goto j => (assoc [] i).bind fun l => assoc l j
noncomputable def lex_letter_L : List Code := selI [] (loopsOf lex_letter_code)
noncomputable def lex_letter_J : List Code := selI [] (joinsOf lex_letter_code)
noncomputable def lex_letter_S : List Code := scopesOf lex_letter_code
theorem lex_letter_cok {ρ : Type} (k : Nat) : COK (lex_letter_cfg (ρ := ρ) k) (lex_letter_G k) lex_letter_code :=
  cok_of (tl := []) (tj := []) (tb := []) rfl rfl rfl (nil_all (by kernel_rfl)) (nil_all (by kernel_rfl)) (fun p hp => by cases hp)
noncomputable def lex_letter_enc (r : Bool) : AV UU := .pv (.bool r)
noncomputable def lex_letter_dec (v : AV UU) (_ : List (List (AV UU))) : Option Bool :=
asB v fun r0 =>
some r0
theorem lex_letter_dec_enc (v : AV UU) (b : List (List (AV UU))) (r : Bool) (h : lex_letter_dec v b = some r) : v = lex_letter_enc r := by
  unfold lex_letter_dec at h
  replace h := asB_inv h; obtain ⟨r0, rfl, h⟩ := h
  cases h
  rfl
theorem lex_letter_eq (k : Nat) (c0 : Int) : bodyK UX (lex_letter_cfg k) (lex_letter_G k) Try.f83 [.pv (.int .u8 c0)] [] lex_letter_dec = lex_letter k c0 := by kernel_rfl
theorem lex_letter_con (k : Nat) (c0 : Int) (r : Bool) (h : lex_letter k c0 = some r) : Con (X := UX) Try.prog 83 [.pv (.int .u8 c0)] [] (lex_letter_enc r) [] :=
  con_of_body xok tok Try.func83 lex_letter_body (lex_letter_gok k) rfl (lex_letter_cok k) (of_decide_eq_true (by kernel_rfl)) lex_letter_dec_enc ((lex_letter_eq k c0).trans h)
noncomputable def lex_letter_an {ρ : Type} (k : Nat) : An UX ρ := fun args bx K =>
popA args fun v1 a2 =>
asI .u8 v1 fun c0 =>
popN a2 <|
popN bx <|
(lex_letter k c0).bind fun r => K (lex_letter_enc r) []
theorem lex_letter_ok {ρ : Type} (k : Nat) : AnsOK Try.prog 83 (lex_letter_an (ρ := ρ) k) := by
  intro args bx K r h
  unfold lex_letter_an at h
  replace h := popA_inv h; obtain ⟨v1, a2, rfl, h⟩ := h
  replace h := asI_inv h; obtain ⟨c0, rfl, h⟩ := h
  replace h := popN_inv h; obtain ⟨rfl, h⟩ := h
  replace h := popN_inv h; obtain ⟨rfl, h⟩ := h
  replace h := bind_inv h
  obtain ⟨x, hx, h⟩ := h
  exact ⟨there_of Try.func83 (by kernel_rfl) lex_letter_body, _, _, h, lex_letter_con k c0 x hx⟩

/-! cadastre/lex.digit -/
noncomputable def lex_digit_code : Code := match Try.f84.body with | some c => c | none => .skip
theorem lex_digit_body : Try.f84.body = some lex_digit_code := by kernel_rfl
noncomputable def lex_digit_G {ρ : Type} (k : Nat) : Ans UX ρ := gnil
theorem lex_digit_gok {ρ : Type} (k : Nat) : GOK Try.prog (lex_digit_G (ρ := ρ) k) := gok_nil
noncomputable def lex_digit_cfg {ρ : Type} (k : Nat) : Cfg UX ρ where
  live i := (assoc [(0, [0]), (1, [0])] i).getD []
  boxes i := (assoc [(0, []), (1, [])] i).getD []
  tk i := (assoc [] i).getD []
  n := 9
  labelR l := (assoc [] l).getD 0
  loops := assoc []
  labels := assoc []
  joins := assoc []
  xl i e := match e with
    | .nxt => assoc [] i
    | .ret => assoc [] i
    | .exit j => (assoc [] i).bind fun l => assoc l j
    | .goto j => (assoc [] i).bind fun l => assoc l j
noncomputable def lex_digit_L : List Code := selI [] (loopsOf lex_digit_code)
noncomputable def lex_digit_J : List Code := selI [] (joinsOf lex_digit_code)
noncomputable def lex_digit_S : List Code := scopesOf lex_digit_code
theorem lex_digit_cok {ρ : Type} (k : Nat) : COK (lex_digit_cfg (ρ := ρ) k) (lex_digit_G k) lex_digit_code :=
  cok_of (tl := []) (tj := []) (tb := []) rfl rfl rfl (nil_all (by kernel_rfl)) (nil_all (by kernel_rfl)) (fun p hp => by cases hp)
noncomputable def lex_digit_enc (r : Bool) : AV UU := .pv (.bool r)
noncomputable def lex_digit_dec (v : AV UU) (_ : List (List (AV UU))) : Option Bool :=
asB v fun r0 =>
some r0
theorem lex_digit_dec_enc (v : AV UU) (b : List (List (AV UU))) (r : Bool) (h : lex_digit_dec v b = some r) : v = lex_digit_enc r := by
  unfold lex_digit_dec at h
  replace h := asB_inv h; obtain ⟨r0, rfl, h⟩ := h
  cases h
  rfl
theorem lex_digit_eq (k : Nat) (c0 : Int) : bodyK UX (lex_digit_cfg k) (lex_digit_G k) Try.f84 [.pv (.int .u8 c0)] [] lex_digit_dec = lex_digit k c0 := by kernel_rfl
theorem lex_digit_con (k : Nat) (c0 : Int) (r : Bool) (h : lex_digit k c0 = some r) : Con (X := UX) Try.prog 84 [.pv (.int .u8 c0)] [] (lex_digit_enc r) [] :=
  con_of_body xok tok Try.func84 lex_digit_body (lex_digit_gok k) rfl (lex_digit_cok k) (of_decide_eq_true (by kernel_rfl)) lex_digit_dec_enc ((lex_digit_eq k c0).trans h)
noncomputable def lex_digit_an {ρ : Type} (k : Nat) : An UX ρ := fun args bx K =>
popA args fun v1 a2 =>
asI .u8 v1 fun c0 =>
popN a2 <|
popN bx <|
(lex_digit k c0).bind fun r => K (lex_digit_enc r) []
theorem lex_digit_ok {ρ : Type} (k : Nat) : AnsOK Try.prog 84 (lex_digit_an (ρ := ρ) k) := by
  intro args bx K r h
  unfold lex_digit_an at h
  replace h := popA_inv h; obtain ⟨v1, a2, rfl, h⟩ := h
  replace h := asI_inv h; obtain ⟨c0, rfl, h⟩ := h
  replace h := popN_inv h; obtain ⟨rfl, h⟩ := h
  replace h := popN_inv h; obtain ⟨rfl, h⟩ := h
  replace h := bind_inv h
  obtain ⟨x, hx, h⟩ := h
  exact ⟨there_of Try.func84 (by kernel_rfl) lex_digit_body, _, _, h, lex_digit_con k c0 x hx⟩

/-! internal/stringslite.IndexByte -/
noncomputable def stringslite_IndexByte_code : Code := match Try.f108.body with | some c => c | none => .skip
theorem stringslite_IndexByte_body : Try.f108.body = some stringslite_IndexByte_code := by kernel_rfl
noncomputable def stringslite_IndexByte_enc (r : Int) : AV UU := .pv (.int .i64 r)
open Go.RowKit in
set_option maxRecDepth 100000 in
set_option maxHeartbeats 1000000 in
theorem stringslite_IndexByte_con (k : Nat) (s0 : ByteArray) (c1 : Int) (r : Int) (h : stringslite_IndexByte k s0 c1 = some r) : Con (X := UX) Try.prog 108 [.pv (.str s0), .pv (.int .u8 c1)] [] (stringslite_IndexByte_enc r) [] := by
  unfold stringslite_IndexByte at h
  obtain rfl := Option.some.inj h
  exact con_strByte fun w => by
    go_enter Try.func108, Try.ntmps108
    go_wp2
    rw [run_callFunc_extern Try.func110 (by kernel_rfl) (by kernel_rfl) (by kernel_rfl) (e := Extern.BytealgIndexByte.indexByte) (by kernel_rfl), Lib.run_indexByteString]
    simp only [Result.andThen]
    rw [Oper.upon_value]
    go_wp2
    go_ret
    exact ⟨rfl, rfl⟩
noncomputable def stringslite_IndexByte_an {ρ : Type} (k : Nat) : An UX ρ := fun args bx K =>
popA args fun v1 a2 =>
asS v1 fun s0 =>
popA a2 fun v3 a4 =>
asI .u8 v3 fun c1 =>
popN a4 <|
popN bx <|
(stringslite_IndexByte k s0 c1).bind fun r => K (stringslite_IndexByte_enc r) []
theorem stringslite_IndexByte_ok {ρ : Type} (k : Nat) : AnsOK Try.prog 108 (stringslite_IndexByte_an (ρ := ρ) k) := by
  intro args bx K r h
  unfold stringslite_IndexByte_an at h
  replace h := popA_inv h; obtain ⟨v1, a2, rfl, h⟩ := h
  replace h := asS_inv h; obtain ⟨s0, rfl, h⟩ := h
  replace h := popA_inv h; obtain ⟨v3, a4, rfl, h⟩ := h
  replace h := asI_inv h; obtain ⟨c1, rfl, h⟩ := h
  replace h := popN_inv h; obtain ⟨rfl, h⟩ := h
  replace h := popN_inv h; obtain ⟨rfl, h⟩ := h
  replace h := bind_inv h
  obtain ⟨x, hx, h⟩ := h
  exact ⟨there_of Try.func108 (by kernel_rfl) stringslite_IndexByte_body, _, _, h, stringslite_IndexByte_con k s0 c1 x hx⟩

/-! strings.IndexByte -/
noncomputable def strings_IndexByte_code : Code := match Try.f104.body with | some c => c | none => .skip
theorem strings_IndexByte_body : Try.f104.body = some strings_IndexByte_code := by kernel_rfl
noncomputable def strings_IndexByte_G {ρ : Type} (k : Nat) : Ans UX ρ := gk 108 (stringslite_IndexByte_an k) (gnil)
theorem strings_IndexByte_gok {ρ : Type} (k : Nat) : GOK Try.prog (strings_IndexByte_G (ρ := ρ) k) := gok_cons (stringslite_IndexByte_ok k) (gok_nil)
noncomputable def strings_IndexByte_cfg {ρ : Type} (k : Nat) : Cfg UX ρ where
  live i := (assoc [(0, [0, 1]), (1, [0, 1])] i).getD []
  boxes i := (assoc [(0, []), (1, [])] i).getD []
  tk i := (assoc [] i).getD []
  n := 8
  labelR l := (assoc [] l).getD 0
  loops := assoc []
  labels := assoc []
  joins := assoc []
  xl i e := match e with
    | .nxt => assoc [] i
    | .ret => assoc [] i
    | .exit j => (assoc [] i).bind fun l => assoc l j
    | .goto j => (assoc [] i).bind fun l => assoc l j
noncomputable def strings_IndexByte_L : List Code := selI [] (loopsOf strings_IndexByte_code)
noncomputable def strings_IndexByte_J : List Code := selI [] (joinsOf strings_IndexByte_code)
noncomputable def strings_IndexByte_S : List Code := scopesOf strings_IndexByte_code
theorem strings_IndexByte_cok {ρ : Type} (k : Nat) : COK (strings_IndexByte_cfg (ρ := ρ) k) (strings_IndexByte_G k) strings_IndexByte_code :=
  cok_of (tl := []) (tj := []) (tb := []) rfl rfl rfl (nil_all (by kernel_rfl)) (nil_all (by kernel_rfl)) (fun p hp => by cases hp)
noncomputable def strings_IndexByte_enc (r : Int) : AV UU := .pv (.int .i64 r)
noncomputable def strings_IndexByte_dec (v : AV UU) (_ : List (List (AV UU))) : Option Int :=
asI .i64 v fun r0 =>
some r0
theorem strings_IndexByte_dec_enc (v : AV UU) (b : List (List (AV UU))) (r : Int) (h : strings_IndexByte_dec v b = some r) : v = strings_IndexByte_enc r := by
  unfold strings_IndexByte_dec at h
  replace h := asI_inv h; obtain ⟨r0, rfl, h⟩ := h
  cases h
  rfl
theorem strings_IndexByte_eq (k : Nat) (s0 : ByteArray) (c1 : Int) : bodyK UX (strings_IndexByte_cfg k) (strings_IndexByte_G k) Try.f104 [.pv (.str s0), .pv (.int .u8 c1)] [] strings_IndexByte_dec = strings_IndexByte k s0 c1 := by kernel_rfl
theorem strings_IndexByte_con (k : Nat) (s0 : ByteArray) (c1 : Int) (r : Int) (h : strings_IndexByte k s0 c1 = some r) : Con (X := UX) Try.prog 104 [.pv (.str s0), .pv (.int .u8 c1)] [] (strings_IndexByte_enc r) [] :=
  con_of_body xok tok Try.func104 strings_IndexByte_body (strings_IndexByte_gok k) rfl (strings_IndexByte_cok k) (of_decide_eq_true (by kernel_rfl)) strings_IndexByte_dec_enc ((strings_IndexByte_eq k s0 c1).trans h)
noncomputable def strings_IndexByte_an {ρ : Type} (k : Nat) : An UX ρ := fun args bx K =>
popA args fun v1 a2 =>
asS v1 fun s0 =>
popA a2 fun v3 a4 =>
asI .u8 v3 fun c1 =>
popN a4 <|
popN bx <|
(strings_IndexByte k s0 c1).bind fun r => K (strings_IndexByte_enc r) []
theorem strings_IndexByte_ok {ρ : Type} (k : Nat) : AnsOK Try.prog 104 (strings_IndexByte_an (ρ := ρ) k) := by
  intro args bx K r h
  unfold strings_IndexByte_an at h
  replace h := popA_inv h; obtain ⟨v1, a2, rfl, h⟩ := h
  replace h := asS_inv h; obtain ⟨s0, rfl, h⟩ := h
  replace h := popA_inv h; obtain ⟨v3, a4, rfl, h⟩ := h
  replace h := asI_inv h; obtain ⟨c1, rfl, h⟩ := h
  replace h := popN_inv h; obtain ⟨rfl, h⟩ := h
  replace h := popN_inv h; obtain ⟨rfl, h⟩ := h
  replace h := bind_inv h
  obtain ⟨x, hx, h⟩ := h
  exact ⟨there_of Try.func104 (by kernel_rfl) strings_IndexByte_body, _, _, h, strings_IndexByte_con k s0 c1 x hx⟩

/-! cadastre/lex.mark -/
noncomputable def lex_mark_code : Code := match Try.f85.body with | some c => c | none => .skip
theorem lex_mark_body : Try.f85.body = some lex_mark_code := by kernel_rfl
noncomputable def lex_mark_G {ρ : Type} (k : Nat) : Ans UX ρ := gk 104 (strings_IndexByte_an k) (gnil)
theorem lex_mark_gok {ρ : Type} (k : Nat) : GOK Try.prog (lex_mark_G (ρ := ρ) k) := gok_cons (strings_IndexByte_ok k) (gok_nil)
noncomputable def lex_mark_j9_s {ρ : Type} (k : Nat) : Run UX ρ := fun s K =>
popS 0 s.env fun v1 e2 =>
asS v1 fun s0 =>
popN e2 <|
popN s.hp <|
lex_mark_j9 k (fun t2 => K .ret ⟨[(2, .pv (.int .i64 t2))], []⟩) s0
noncomputable def lex_mark_cfg {ρ : Type} (k : Nat) : Cfg UX ρ where
  live i := (assoc [(0, [0]), (1, [0]), (2, [0]), (3, [0, 7]), (4, [0, 7]), (5, [0, 7]), (6, [0, 7]), (7, [0, 7]), (8, []), (9, [0]), (10, []), (11, [])] i).getD []
  boxes i := (assoc [(0, []), (1, []), (2, []), (3, []), (4, []), (5, []), (6, []), (7, []), (8, []), (9, []), (10, []), (11, [])] i).getD []
  tk i := (assoc [] i).getD []
  n := 18
  labelR l := (assoc [] l).getD 0
  loops := assoc []
  labels := assoc []
  joins := assoc [(9, lex_mark_j9_s k)]
  xl i e := match e with
    | .nxt => assoc [] i
    | .ret => assoc [(9, ([2], []))] i
    | .exit j => (assoc [] i).bind fun l => assoc l j
    | .goto j => (assoc [] i).bind fun l => assoc l j
noncomputable def lex_mark_L : List Code := selI [] (loopsOf lex_mark_code)
noncomputable def lex_mark_J : List Code := selI [9] (joinsOf lex_mark_code)
noncomputable def lex_mark_S : List Code := scopesOf lex_mark_code
theorem lex_mark_j9_eq0 {ρ : Type} (k : Nat) (K : Ex → St UU → Option ρ) (s0 : ByteArray) : exec UX (lex_mark_cfg k) (lex_mark_G k) (lex_mark_J.getD 0 .skip) ⟨[(0, .pv (.str s0))], []⟩ (nrmK UX (lex_mark_cfg k) 9 K) = lex_mark_j9 k (fun t2 => K .ret ⟨[(2, .pv (.int .i64 t2))], []⟩) s0 := by kernel_rfl
theorem lex_mark_j9_ok0 {ρ : Type} (k : Nat) : JoinOK UX (lex_mark_cfg (ρ := ρ) k) (lex_mark_G k) (lex_mark_J.getD 0 .skip) 9 (lex_mark_j9_s k) := by
  intro s K r h
  obtain ⟨env, hp⟩ := s
  unfold lex_mark_j9_s at h
  replace h := popS_inv h; obtain ⟨v1, e2, rfl, h⟩ := h
  replace h := asS_inv h; obtain ⟨s0, rfl, h⟩ := h
  replace h := popN_inv h; obtain ⟨rfl, h⟩ := h
  replace h := popN_inv h; obtain ⟨rfl, h⟩ := h
  exact (lex_mark_j9_eq0 k K s0).trans h
theorem lex_mark_cok {ρ : Type} (k : Nat) : COK (lex_mark_cfg (ρ := ρ) k) (lex_mark_G k) lex_mark_code :=
  cok_of (tl := []) (tj := [(9, lex_mark_j9_s k)]) (tb := []) rfl rfl rfl (nil_all (by kernel_rfl)) (all_nth 1 (by kernel_rfl) ⟨join_case (by kernel_rfl) rfl (lex_mark_j9_ok0 k), trivial⟩) (fun p hp => by cases hp)
noncomputable def lex_mark_enc (r : Int) : AV UU := .pv (.int .i64 r)
noncomputable def lex_mark_dec (v : AV UU) (_ : List (List (AV UU))) : Option Int :=
asI .i64 v fun r0 =>
some r0
theorem lex_mark_dec_enc (v : AV UU) (b : List (List (AV UU))) (r : Int) (h : lex_mark_dec v b = some r) : v = lex_mark_enc r := by
  unfold lex_mark_dec at h
  replace h := asI_inv h; obtain ⟨r0, rfl, h⟩ := h
  cases h
  rfl
theorem lex_mark_eq (k : Nat) (s0 : ByteArray) : bodyK UX (lex_mark_cfg k) (lex_mark_G k) Try.f85 [.pv (.str s0)] [] lex_mark_dec = lex_mark k s0 := by kernel_rfl
theorem lex_mark_con (k : Nat) (s0 : ByteArray) (r : Int) (h : lex_mark k s0 = some r) : Con (X := UX) Try.prog 85 [.pv (.str s0)] [] (lex_mark_enc r) [] :=
  con_of_body xok tok Try.func85 lex_mark_body (lex_mark_gok k) rfl (lex_mark_cok k) (of_decide_eq_true (by kernel_rfl)) lex_mark_dec_enc ((lex_mark_eq k s0).trans h)
noncomputable def lex_mark_an {ρ : Type} (k : Nat) : An UX ρ := fun args bx K =>
popA args fun v1 a2 =>
asS v1 fun s0 =>
popN a2 <|
popN bx <|
(lex_mark k s0).bind fun r => K (lex_mark_enc r) []
theorem lex_mark_ok {ρ : Type} (k : Nat) : AnsOK Try.prog 85 (lex_mark_an (ρ := ρ) k) := by
  intro args bx K r h
  unfold lex_mark_an at h
  replace h := popA_inv h; obtain ⟨v1, a2, rfl, h⟩ := h
  replace h := asS_inv h; obtain ⟨s0, rfl, h⟩ := h
  replace h := popN_inv h; obtain ⟨rfl, h⟩ := h
  replace h := popN_inv h; obtain ⟨rfl, h⟩ := h
  replace h := bind_inv h
  obtain ⟨x, hx, h⟩ := h
  exact ⟨there_of Try.func85 (by kernel_rfl) lex_mark_body, _, _, h, lex_mark_con k s0 x hx⟩

/-! cadastre/lex.nibble -/
noncomputable def lex_nibble_code : Code := match Try.f105.body with | some c => c | none => .skip
theorem lex_nibble_body : Try.f105.body = some lex_nibble_code := by kernel_rfl
noncomputable def lex_nibble_G {ρ : Type} (k : Nat) : Ans UX ρ := gk 84 (lex_digit_an k) (gnil)
theorem lex_nibble_gok {ρ : Type} (k : Nat) : GOK Try.prog (lex_nibble_G (ρ := ρ) k) := gok_cons (lex_digit_ok k) (gok_nil)
noncomputable def lex_nibble_j5_s {ρ : Type} (k : Nat) : Run UX ρ := fun s K =>
popS 0 s.env fun v1 e2 =>
asI .u8 v1 fun c0 =>
popN e2 <|
popN s.hp <|
lex_nibble_j5 k (fun t2 t3 => K .ret ⟨[(2, .pv (.int .u8 t2)), (3, .pv (.bool t3))], []⟩) (K .nxt ⟨[], []⟩) c0
noncomputable def lex_nibble_cfg {ρ : Type} (k : Nat) : Cfg UX ρ where
  live i := (assoc [(0, [0]), (1, [0]), (2, [0]), (3, [0]), (4, [0]), (5, [0]), (6, [0]), (7, [])] i).getD []
  boxes i := (assoc [(0, []), (1, []), (2, []), (3, []), (4, []), (5, []), (6, []), (7, [])] i).getD []
  tk i := (assoc [] i).getD []
  n := 29
  labelR l := (assoc [] l).getD 0
  loops := assoc []
  labels := assoc []
  joins := assoc [(5, lex_nibble_j5_s k)]
  xl i e := match e with
    | .nxt => assoc [(5, ([], []))] i
    | .ret => assoc [(5, ([2, 3], []))] i
    | .exit j => (assoc [] i).bind fun l => assoc l j
    | .goto j => (assoc [] i).bind fun l => assoc l j
noncomputable def lex_nibble_L : List Code := selI [] (loopsOf lex_nibble_code)
noncomputable def lex_nibble_J : List Code := selI [5] (joinsOf lex_nibble_code)
noncomputable def lex_nibble_S : List Code := scopesOf lex_nibble_code
theorem lex_nibble_j5_eq0 {ρ : Type} (k : Nat) (K : Ex → St UU → Option ρ) (c0 : Int) : exec UX (lex_nibble_cfg k) (lex_nibble_G k) (lex_nibble_J.getD 0 .skip) ⟨[(0, .pv (.int .u8 c0))], []⟩ (nrmK UX (lex_nibble_cfg k) 5 K) = lex_nibble_j5 k (fun t2 t3 => K .ret ⟨[(2, .pv (.int .u8 t2)), (3, .pv (.bool t3))], []⟩) (K .nxt ⟨[], []⟩) c0 := by kernel_rfl
theorem lex_nibble_j5_ok0 {ρ : Type} (k : Nat) : JoinOK UX (lex_nibble_cfg (ρ := ρ) k) (lex_nibble_G k) (lex_nibble_J.getD 0 .skip) 5 (lex_nibble_j5_s k) := by
  intro s K r h
  obtain ⟨env, hp⟩ := s
  unfold lex_nibble_j5_s at h
  replace h := popS_inv h; obtain ⟨v1, e2, rfl, h⟩ := h
  replace h := asI_inv h; obtain ⟨c0, rfl, h⟩ := h
  replace h := popN_inv h; obtain ⟨rfl, h⟩ := h
  replace h := popN_inv h; obtain ⟨rfl, h⟩ := h
  exact (lex_nibble_j5_eq0 k K c0).trans h
theorem lex_nibble_cok {ρ : Type} (k : Nat) : COK (lex_nibble_cfg (ρ := ρ) k) (lex_nibble_G k) lex_nibble_code :=
  cok_of (tl := []) (tj := [(5, lex_nibble_j5_s k)]) (tb := []) rfl rfl rfl (nil_all (by kernel_rfl)) (all_nth 1 (by kernel_rfl) ⟨join_case (by kernel_rfl) rfl (lex_nibble_j5_ok0 k), trivial⟩) (fun p hp => by cases hp)
noncomputable def lex_nibble_enc (r : Int × Bool) : AV UU := .pv (.tup [.int .u8 r.1, .bool r.2])
noncomputable def lex_nibble_dec (v : AV UU) (_ : List (List (AV UU))) : Option (Int × Bool) :=
asT v fun q1 =>
popA q1 fun p2 q3 =>
asI .u8 (.pv p2) fun r0 =>
popA q3 fun p4 q5 =>
asB (.pv p4) fun r1 =>
popN q5 <|
some (r0, r1)
theorem lex_nibble_dec_enc (v : AV UU) (b : List (List (AV UU))) (r : Int × Bool) (h : lex_nibble_dec v b = some r) : v = lex_nibble_enc r := by
  unfold lex_nibble_dec at h
  replace h := asT_inv h; obtain ⟨q1, rfl, h⟩ := h
  replace h := popA_inv h; obtain ⟨p2, q3, rfl, h⟩ := h
  replace h := asI_inv h; obtain ⟨r0, e, h⟩ := h; cases e
  replace h := popA_inv h; obtain ⟨p4, q5, rfl, h⟩ := h
  replace h := asB_inv h; obtain ⟨r1, e, h⟩ := h; cases e
  replace h := popN_inv h; obtain ⟨rfl, h⟩ := h
  cases h
  rfl
theorem lex_nibble_eq (k : Nat) (c0 : Int) : bodyK UX (lex_nibble_cfg k) (lex_nibble_G k) Try.f105 [.pv (.int .u8 c0)] [] lex_nibble_dec = lex_nibble k c0 := by kernel_rfl
theorem lex_nibble_con (k : Nat) (c0 : Int) (r : Int × Bool) (h : lex_nibble k c0 = some r) : Con (X := UX) Try.prog 105 [.pv (.int .u8 c0)] [] (lex_nibble_enc r) [] :=
  con_of_body xok tok Try.func105 lex_nibble_body (lex_nibble_gok k) rfl (lex_nibble_cok k) (of_decide_eq_true (by kernel_rfl)) lex_nibble_dec_enc ((lex_nibble_eq k c0).trans h)
noncomputable def lex_nibble_an {ρ : Type} (k : Nat) : An UX ρ := fun args bx K =>
popA args fun v1 a2 =>
asI .u8 v1 fun c0 =>
popN a2 <|
popN bx <|
(lex_nibble k c0).bind fun r => K (lex_nibble_enc r) []
theorem lex_nibble_ok {ρ : Type} (k : Nat) : AnsOK Try.prog 105 (lex_nibble_an (ρ := ρ) k) := by
  intro args bx K r h
  unfold lex_nibble_an at h
  replace h := popA_inv h; obtain ⟨v1, a2, rfl, h⟩ := h
  replace h := asI_inv h; obtain ⟨c0, rfl, h⟩ := h
  replace h := popN_inv h; obtain ⟨rfl, h⟩ := h
  replace h := popN_inv h; obtain ⟨rfl, h⟩ := h
  replace h := bind_inv h
  obtain ⟨x, hx, h⟩ := h
  exact ⟨there_of Try.func105 (by kernel_rfl) lex_nibble_body, _, _, h, lex_nibble_con k c0 x hx⟩
end Go.Proofs.Ytekjibpkkgldgaa.X
