/-
  What the program's functions answer: the printed functions' answers.
-/
import Derived.Test.YtnoeedkbadoogaaDoorPG2
namespace Go.Proofs.YtnoeedkbadoogaaDoor.P
open Go Go.AX
/-! cadastre/print.Good -/
noncomputable def print_Good_code : Code := match Tryd.f18.body with | some c => c | none => .skip
theorem print_Good_body : Tryd.f18.body = some print_Good_code := by kernel_rfl
noncomputable def print_Good_G {ρ : Type} (k : Nat) : Ans UX ρ := gk 27 (print_count_an k) (gnil)
theorem print_Good_gok {ρ : Type} (k : Nat) : GOK Tryd.prog (print_Good_G (ρ := ρ) k) := gok_cons (print_count_ok k) (gok_nil)
noncomputable def print_Good_cfg {ρ : Type} (k : Nat) : Cfg UX ρ where
  live i := (assoc [(0, [0]), (1, [1]), (2, [3])] i).getD []
  boxes i := (assoc [(0, []), (1, [1]), (2, [])] i).getD []
  tk i := (assoc [] i).getD []
  n := 12
  labelR l := (assoc [] l).getD 0
  loops := assoc []
  labels := assoc []
  joins := assoc []
  xl i e := match e with
    | .nxt => assoc [] i
    | .ret => assoc [] i
    | .exit j => (assoc [] i).bind fun l => assoc l j
    | .goto j => (assoc [] i).bind fun l => assoc l j
noncomputable def print_Good_L : List Code := selI [] (loopsOf print_Good_code)
noncomputable def print_Good_J : List Code := selI [] (joinsOf print_Good_code)
noncomputable def print_Good_S : List Code := scopesOf print_Good_code
theorem print_Good_cok {ρ : Type} (k : Nat) : COK (print_Good_cfg (ρ := ρ) k) (print_Good_G k) print_Good_code :=
  cok_of (tl := []) (tj := []) (tb := []) rfl rfl rfl (nil_all (by kernel_rfl)) (nil_all (by kernel_rfl)) (fun p hp => by cases hp)
noncomputable def print_Good_enc (r : Bool) : AV UU := .pv (.bool r)
noncomputable def print_Good_dec (v : AV UU) (_ : List (List (AV UU))) : Option Bool :=
asB v fun r0 =>
some r0
theorem print_Good_dec_enc (v : AV UU) (b : List (List (AV UU))) (r : Bool) (h : print_Good_dec v b = some r) : v = print_Good_enc r := by
  unfold print_Good_dec at h
  replace h := asB_inv h; obtain ⟨r0, rfl, h⟩ := h
  cases h
  rfl
theorem print_Good_eq (k : Nat) (e0 : S25) : bodyK UX (print_Good_cfg k) (print_Good_G k) Tryd.f18 [.pv (.typ (.s25 e0))] [] print_Good_dec = print_Good k e0 := by kernel_rfl
theorem print_Good_con (k : Nat) (e0 : S25) (r : Bool) (h : print_Good k e0 = some r) : Con (X := UX) Tryd.prog 18 [.pv (.typ (.s25 e0))] [] (print_Good_enc r) [] :=
  con_of_body xok tok Tryd.func18 print_Good_body (print_Good_gok k) rfl (print_Good_cok k) (of_decide_eq_true (by kernel_rfl)) print_Good_dec_enc ((print_Good_eq k e0).trans h)
noncomputable def print_Good_an {ρ : Type} (k : Nat) : An UX ρ := fun args bx K =>
popA args fun v1 a2 =>
as_s25 v1 fun e0 =>
popN a2 <|
popN bx <|
(print_Good k e0).bind fun r => K (print_Good_enc r) []
theorem print_Good_ok {ρ : Type} (k : Nat) : AnsOK Tryd.prog 18 (print_Good_an (ρ := ρ) k) := by
  intro args bx K r h
  unfold print_Good_an at h
  replace h := popA_inv h; obtain ⟨v1, a2, rfl, h⟩ := h
  replace h := as_s25_inv h; obtain ⟨e0, rfl, h⟩ := h
  replace h := popN_inv h; obtain ⟨rfl, h⟩ := h
  replace h := popN_inv h; obtain ⟨rfl, h⟩ := h
  replace h := bind_inv h
  obtain ⟨x, hx, h⟩ := h
  exact ⟨there_of Tryd.func18 (by kernel_rfl) print_Good_body, _, _, h, print_Good_con k e0 x hx⟩

/-! strconv.FormatInt -/
noncomputable def strconv_FormatInt_code : Code := match Tryd.f44.body with | some c => c | none => .skip
theorem strconv_FormatInt_body : Tryd.f44.body = some strconv_FormatInt_code := by kernel_rfl
noncomputable def strconv_FormatInt_enc (r : ByteArray) : AV UU := .pv (.str r)
open Go.RowKit in
set_option maxRecDepth 100000 in
set_option maxHeartbeats 1000000 in
theorem strconv_FormatInt_con (k : Nat) (c0 : Int) (c1 : Int) (r : ByteArray) (h : strconv_FormatInt k c0 c1 = some r) : Con (X := UX) Tryd.prog 44 [.pv (.int .i64 c0), .pv (.int .i64 c1)] [] (strconv_FormatInt_enc r) [] := by
  unfold strconv_FormatInt at h
  unfold chk at h
  split at h
  · rename_i hc
    obtain ⟨rfl, hb⟩ := hc
    rw [big_eq, decide_eq_true_eq] at hb
    obtain rfl := Option.some.inj h
    exact con_numNum xok.wpos fun D w hI => (Any.strconv_FormatInt_10 Tryd.lays173 c0 hb.1 hb.2 w hI.1).mono fun e w' hw => by
      obtain ⟨rfl, k, os, rfl⟩ := hw
      exact ⟨rfl, Go.Lib.below_grow _ w (Nat.le_refl _) k os⟩
  · cases h
noncomputable def strconv_FormatInt_an {ρ : Type} (k : Nat) : An UX ρ := fun args bx K =>
popA args fun v1 a2 =>
asI .i64 v1 fun c0 =>
popA a2 fun v3 a4 =>
asI .i64 v3 fun c1 =>
popN a4 <|
popN bx <|
(strconv_FormatInt k c0 c1).bind fun r => K (strconv_FormatInt_enc r) []
theorem strconv_FormatInt_ok {ρ : Type} (k : Nat) : AnsOK Tryd.prog 44 (strconv_FormatInt_an (ρ := ρ) k) := by
  intro args bx K r h
  unfold strconv_FormatInt_an at h
  replace h := popA_inv h; obtain ⟨v1, a2, rfl, h⟩ := h
  replace h := asI_inv h; obtain ⟨c0, rfl, h⟩ := h
  replace h := popA_inv h; obtain ⟨v3, a4, rfl, h⟩ := h
  replace h := asI_inv h; obtain ⟨c1, rfl, h⟩ := h
  replace h := popN_inv h; obtain ⟨rfl, h⟩ := h
  replace h := popN_inv h; obtain ⟨rfl, h⟩ := h
  replace h := bind_inv h
  obtain ⟨x, hx, h⟩ := h
  exact ⟨there_of Tryd.func44 (by kernel_rfl) strconv_FormatInt_body, _, _, h, strconv_FormatInt_con k c0 c1 x hx⟩

/-! cadastre/print.quote -/
noncomputable def print_quote_code : Code := match Tryd.f45.body with | some c => c | none => .skip
theorem print_quote_body : Tryd.f45.body = some print_quote_code := by kernel_rfl
noncomputable def print_quote_G {ρ : Type} (k : Nat) : Ans UX ρ := gnil
theorem print_quote_gok {ρ : Type} (k : Nat) : GOK Tryd.prog (print_quote_G (ρ := ρ) k) := gok_nil
noncomputable def print_quote_l3_s {ρ : Type} (k : Nat) : Run UX ρ := fun s K =>
popS 0 s.env fun v1 e2 =>
asS v1 fun s0 =>
popS 3 e2 fun v3 e4 =>
asO_li_u8 v3 fun b3 =>
popS 7 e4 fun v5 e6 =>
asI .i64 v5 fun t7 =>
popS 8 e6 fun v7 e8 =>
asI .i64 v7 fun t8 =>
popN e8 <|
popN s.hp <|
print_quote_l3 k (fun b3 => K (.exit 0) ⟨[(3, .own (.li_u8 b3))], []⟩) k s0 b3 t7 t8
noncomputable def print_quote_cfg {ρ : Type} (k : Nat) : Cfg UX ρ where
  live i := (assoc [(0, [0]), (1, [0]), (2, [0, 3]), (3, [0, 3, 7, 8]), (4, [0, 3, 7, 8]), (5, [0, 3, 4, 7, 8]), (6, [0, 3, 4, 7, 8]), (7, [0, 3, 4, 7, 8]), (8, [0, 3, 7, 8]), (9, [3])] i).getD []
  boxes i := (assoc [(0, []), (1, []), (2, []), (3, []), (4, []), (5, []), (6, []), (7, []), (8, []), (9, [])] i).getD []
  tk i := (assoc [] i).getD []
  n := 29
  labelR l := (assoc [] l).getD 0
  loops := assoc [(3, print_quote_l3_s k)]
  labels := assoc []
  joins := assoc []
  xl i e := match e with
    | .nxt => assoc [] i
    | .ret => assoc [] i
    | .exit j => (assoc [(3, [(0, ([3], []))])] i).bind fun l => assoc l j
    | .goto j => (assoc [] i).bind fun l => assoc l j
noncomputable def print_quote_L : List Code := selI [3] (loopsOf print_quote_code)
noncomputable def print_quote_J : List Code := selI [] (joinsOf print_quote_code)
noncomputable def print_quote_S : List Code := scopesOf print_quote_code
theorem print_quote_l3_eq0 {ρ : Type} (k : Nat) (K : Ex → St UU → Option ρ) : ∀ (n : Nat) (v : ByteArray × (List Int) × Int × Int), iterK UX (fun s => s.at (print_quote_cfg (ρ := ρ) k).live (print_quote_cfg (ρ := ρ) k).boxes (some 3)) (exec UX (print_quote_cfg k) (print_quote_G k) (print_quote_L.getD 0 .skip)) n ⟨[(0, .pv (.str v.1)), (3, .own (.li_u8 v.2.1)), (7, .pv (.int .i64 v.2.2.1)), (8, .pv (.int .i64 v.2.2.2))], []⟩ (nrmK UX (print_quote_cfg k) 3 K) = print_quote_l3 k (fun b3 => K (.exit 0) ⟨[(3, .own (.li_u8 b3))], []⟩) n v.1 v.2.1 v.2.2.1 v.2.2.2 :=
  iter_rec (X := UX) (fun v => ⟨[(0, .pv (.str v.1)), (3, .own (.li_u8 v.2.1)), (7, .pv (.int .i64 v.2.2.1)), (8, .pv (.int .i64 v.2.2.2))], []⟩) (fun rec v => print_quote_l3_b k (fun b3 => K (.exit 0) ⟨[(3, .own (.li_u8 b3))], []⟩) (fun s0 b3 t7 t8 => rec (s0, b3, t7, t8)) v.1 v.2.1 v.2.2.1 v.2.2.2) (fun n v => print_quote_l3 k (fun b3 => K (.exit 0) ⟨[(3, .own (.li_u8 b3))], []⟩) n v.1 v.2.1 v.2.2.1 v.2.2.2) (fun n v => by kernel_rfl) (fun _ => rfl) (fun _ _ => rfl)
theorem print_quote_l3_ok0 {ρ : Type} (k : Nat) : IterOK UX (print_quote_cfg (ρ := ρ) k) (print_quote_G k) (print_quote_L.getD 0 .skip) 3 (print_quote_l3_s k) := by
  intro s K r h
  obtain ⟨env, hp⟩ := s
  unfold print_quote_l3_s at h
  replace h := popS_inv h; obtain ⟨v1, e2, rfl, h⟩ := h
  replace h := asS_inv h; obtain ⟨s0, rfl, h⟩ := h
  replace h := popS_inv h; obtain ⟨v3, e4, rfl, h⟩ := h
  replace h := asO_li_u8_inv h; obtain ⟨b3, rfl, h⟩ := h
  replace h := popS_inv h; obtain ⟨v5, e6, rfl, h⟩ := h
  replace h := asI_inv h; obtain ⟨t7, rfl, h⟩ := h
  replace h := popS_inv h; obtain ⟨v7, e8, rfl, h⟩ := h
  replace h := asI_inv h; obtain ⟨t8, rfl, h⟩ := h
  replace h := popN_inv h; obtain ⟨rfl, h⟩ := h
  replace h := popN_inv h; obtain ⟨rfl, h⟩ := h
  exact ⟨k, (print_quote_l3_eq0 k K k (s0, b3, t7, t8)).trans h⟩
theorem print_quote_cok {ρ : Type} (k : Nat) : COK (print_quote_cfg (ρ := ρ) k) (print_quote_G k) print_quote_code :=
  cok_of (tl := [(3, print_quote_l3_s k)]) (tj := []) (tb := []) rfl rfl rfl (all_nth 1 (by kernel_rfl) ⟨iter_case (by kernel_rfl) rfl (print_quote_l3_ok0 k), trivial⟩) (nil_all (by kernel_rfl)) (fun p hp => by cases hp)
noncomputable def print_quote_enc (r : ByteArray) : AV UU := .pv (.str r)
noncomputable def print_quote_dec (v : AV UU) (_ : List (List (AV UU))) : Option ByteArray :=
asS v fun r0 =>
some r0
theorem print_quote_dec_enc (v : AV UU) (b : List (List (AV UU))) (r : ByteArray) (h : print_quote_dec v b = some r) : v = print_quote_enc r := by
  unfold print_quote_dec at h
  replace h := asS_inv h; obtain ⟨r0, rfl, h⟩ := h
  cases h
  rfl
theorem print_quote_eq (k : Nat) (s0 : ByteArray) : bodyK UX (print_quote_cfg k) (print_quote_G k) Tryd.f45 [.pv (.str s0)] [] print_quote_dec = print_quote k s0 := by kernel_rfl
theorem print_quote_con (k : Nat) (s0 : ByteArray) (r : ByteArray) (h : print_quote k s0 = some r) : Con (X := UX) Tryd.prog 45 [.pv (.str s0)] [] (print_quote_enc r) [] :=
  con_of_body xok tok Tryd.func45 print_quote_body (print_quote_gok k) rfl (print_quote_cok k) (of_decide_eq_true (by kernel_rfl)) print_quote_dec_enc ((print_quote_eq k s0).trans h)
noncomputable def print_quote_an {ρ : Type} (k : Nat) : An UX ρ := fun args bx K =>
popA args fun v1 a2 =>
asS v1 fun s0 =>
popN a2 <|
popN bx <|
(print_quote k s0).bind fun r => K (print_quote_enc r) []
theorem print_quote_ok {ρ : Type} (k : Nat) : AnsOK Tryd.prog 45 (print_quote_an (ρ := ρ) k) := by
  intro args bx K r h
  unfold print_quote_an at h
  replace h := popA_inv h; obtain ⟨v1, a2, rfl, h⟩ := h
  replace h := asS_inv h; obtain ⟨s0, rfl, h⟩ := h
  replace h := popN_inv h; obtain ⟨rfl, h⟩ := h
  replace h := popN_inv h; obtain ⟨rfl, h⟩ := h
  replace h := bind_inv h
  obtain ⟨x, hx, h⟩ := h
  exact ⟨there_of Tryd.func45 (by kernel_rfl) print_quote_body, _, _, h, print_quote_con k s0 x hx⟩

/-! cadastre/print.hex -/
noncomputable def print_hex_code : Code := match Tryd.f46.body with | some c => c | none => .skip
theorem print_hex_body : Tryd.f46.body = some print_hex_code := by kernel_rfl
noncomputable def print_hex_G {ρ : Type} (k : Nat) : Ans UX ρ := gnil
theorem print_hex_gok {ρ : Type} (k : Nat) : GOK Tryd.prog (print_hex_G (ρ := ρ) k) := gok_nil
noncomputable def print_hex_l3_s {ρ : Type} (k : Nat) : Run UX ρ := fun s K =>
popS 0 s.env fun v1 e2 =>
asS v1 fun s0 =>
popS 3 e2 fun v3 e4 =>
asO_li_u8 v3 fun b3 =>
popS 6 e4 fun v5 e6 =>
asI .i64 v5 fun t6 =>
popS 7 e6 fun v7 e8 =>
asI .i64 v7 fun t7 =>
popN e8 <|
popN s.hp <|
print_hex_l3 k (fun b3 => K (.exit 0) ⟨[(3, .own (.li_u8 b3))], []⟩) k s0 b3 t6 t7
noncomputable def print_hex_cfg {ρ : Type} (k : Nat) : Cfg UX ρ where
  live i := (assoc [(0, [0]), (1, [0]), (2, [0, 3]), (3, [0, 3, 6, 7]), (4, [0, 3, 6, 7]), (5, [0, 3, 4, 6, 7]), (6, [0, 3, 6, 7]), (7, [3])] i).getD []
  boxes i := (assoc [(0, []), (1, []), (2, []), (3, []), (4, []), (5, []), (6, []), (7, [])] i).getD []
  tk i := (assoc [(1000000, [3])] i).getD []
  n := 26
  labelR l := (assoc [] l).getD 0
  loops := assoc [(3, print_hex_l3_s k)]
  labels := assoc []
  joins := assoc []
  xl i e := match e with
    | .nxt => assoc [] i
    | .ret => assoc [] i
    | .exit j => (assoc [(3, [(0, ([3], []))])] i).bind fun l => assoc l j
    | .goto j => (assoc [] i).bind fun l => assoc l j
noncomputable def print_hex_L : List Code := selI [3] (loopsOf print_hex_code)
noncomputable def print_hex_J : List Code := selI [] (joinsOf print_hex_code)
noncomputable def print_hex_S : List Code := scopesOf print_hex_code
theorem print_hex_l3_eq0 {ρ : Type} (k : Nat) (K : Ex → St UU → Option ρ) : ∀ (n : Nat) (v : ByteArray × (List Int) × Int × Int), iterK UX (fun s => s.at (print_hex_cfg (ρ := ρ) k).live (print_hex_cfg (ρ := ρ) k).boxes (some 3)) (exec UX (print_hex_cfg k) (print_hex_G k) (print_hex_L.getD 0 .skip)) n ⟨[(0, .pv (.str v.1)), (3, .own (.li_u8 v.2.1)), (6, .pv (.int .i64 v.2.2.1)), (7, .pv (.int .i64 v.2.2.2))], []⟩ (nrmK UX (print_hex_cfg k) 3 K) = print_hex_l3 k (fun b3 => K (.exit 0) ⟨[(3, .own (.li_u8 b3))], []⟩) n v.1 v.2.1 v.2.2.1 v.2.2.2 :=
  iter_rec (X := UX) (fun v => ⟨[(0, .pv (.str v.1)), (3, .own (.li_u8 v.2.1)), (6, .pv (.int .i64 v.2.2.1)), (7, .pv (.int .i64 v.2.2.2))], []⟩) (fun rec v => print_hex_l3_b k (fun b3 => K (.exit 0) ⟨[(3, .own (.li_u8 b3))], []⟩) (fun s0 b3 t6 t7 => rec (s0, b3, t6, t7)) v.1 v.2.1 v.2.2.1 v.2.2.2) (fun n v => print_hex_l3 k (fun b3 => K (.exit 0) ⟨[(3, .own (.li_u8 b3))], []⟩) n v.1 v.2.1 v.2.2.1 v.2.2.2) (fun n v => by kernel_rfl) (fun _ => rfl) (fun _ _ => rfl)
theorem print_hex_l3_ok0 {ρ : Type} (k : Nat) : IterOK UX (print_hex_cfg (ρ := ρ) k) (print_hex_G k) (print_hex_L.getD 0 .skip) 3 (print_hex_l3_s k) := by
  intro s K r h
  obtain ⟨env, hp⟩ := s
  unfold print_hex_l3_s at h
  replace h := popS_inv h; obtain ⟨v1, e2, rfl, h⟩ := h
  replace h := asS_inv h; obtain ⟨s0, rfl, h⟩ := h
  replace h := popS_inv h; obtain ⟨v3, e4, rfl, h⟩ := h
  replace h := asO_li_u8_inv h; obtain ⟨b3, rfl, h⟩ := h
  replace h := popS_inv h; obtain ⟨v5, e6, rfl, h⟩ := h
  replace h := asI_inv h; obtain ⟨t6, rfl, h⟩ := h
  replace h := popS_inv h; obtain ⟨v7, e8, rfl, h⟩ := h
  replace h := asI_inv h; obtain ⟨t7, rfl, h⟩ := h
  replace h := popN_inv h; obtain ⟨rfl, h⟩ := h
  replace h := popN_inv h; obtain ⟨rfl, h⟩ := h
  exact ⟨k, (print_hex_l3_eq0 k K k (s0, b3, t6, t7)).trans h⟩
theorem print_hex_cok {ρ : Type} (k : Nat) : COK (print_hex_cfg (ρ := ρ) k) (print_hex_G k) print_hex_code :=
  cok_of (tl := [(3, print_hex_l3_s k)]) (tj := []) (tb := []) rfl rfl rfl (all_nth 1 (by kernel_rfl) ⟨iter_case (by kernel_rfl) rfl (print_hex_l3_ok0 k), trivial⟩) (nil_all (by kernel_rfl)) (fun p hp => by cases hp)
noncomputable def print_hex_enc (r : ByteArray) : AV UU := .pv (.str r)
noncomputable def print_hex_dec (v : AV UU) (_ : List (List (AV UU))) : Option ByteArray :=
asS v fun r0 =>
some r0
theorem print_hex_dec_enc (v : AV UU) (b : List (List (AV UU))) (r : ByteArray) (h : print_hex_dec v b = some r) : v = print_hex_enc r := by
  unfold print_hex_dec at h
  replace h := asS_inv h; obtain ⟨r0, rfl, h⟩ := h
  cases h
  rfl
theorem print_hex_eq (k : Nat) (s0 : ByteArray) : bodyK UX (print_hex_cfg k) (print_hex_G k) Tryd.f46 [.pv (.str s0)] [] print_hex_dec = print_hex k s0 := by kernel_rfl
theorem print_hex_con (k : Nat) (s0 : ByteArray) (r : ByteArray) (h : print_hex k s0 = some r) : Con (X := UX) Tryd.prog 46 [.pv (.str s0)] [] (print_hex_enc r) [] :=
  con_of_body xok tok Tryd.func46 print_hex_body (print_hex_gok k) rfl (print_hex_cok k) (of_decide_eq_true (by kernel_rfl)) print_hex_dec_enc ((print_hex_eq k s0).trans h)
noncomputable def print_hex_an {ρ : Type} (k : Nat) : An UX ρ := fun args bx K =>
popA args fun v1 a2 =>
asS v1 fun s0 =>
popN a2 <|
popN bx <|
(print_hex k s0).bind fun r => K (print_hex_enc r) []
theorem print_hex_ok {ρ : Type} (k : Nat) : AnsOK Tryd.prog 46 (print_hex_an (ρ := ρ) k) := by
  intro args bx K r h
  unfold print_hex_an at h
  replace h := popA_inv h; obtain ⟨v1, a2, rfl, h⟩ := h
  replace h := asS_inv h; obtain ⟨s0, rfl, h⟩ := h
  replace h := popN_inv h; obtain ⟨rfl, h⟩ := h
  replace h := popN_inv h; obtain ⟨rfl, h⟩ := h
  replace h := bind_inv h
  obtain ⟨x, hx, h⟩ := h
  exact ⟨there_of Tryd.func46 (by kernel_rfl) print_hex_body, _, _, h, print_hex_con k s0 x hx⟩

/-! cadastre/print.Aggregate -/
noncomputable def print_Aggregate_code : Code := match Tryd.f47.body with | some c => c | none => .skip
theorem print_Aggregate_body : Tryd.f47.body = some print_Aggregate_code := by kernel_rfl
noncomputable def print_Aggregate_G {ρ : Type} (k : Nat) : Ans UX ρ := gnil
theorem print_Aggregate_gok {ρ : Type} (k : Nat) : GOK Tryd.prog (print_Aggregate_G (ρ := ρ) k) := gok_nil
noncomputable def print_Aggregate_cfg {ρ : Type} (k : Nat) : Cfg UX ρ where
  live i := (assoc [(0, [0]), (1, [0])] i).getD []
  boxes i := (assoc [(0, []), (1, [])] i).getD []
  tk i := (assoc [] i).getD []
  n := 9
  labelR l := (assoc [] l).getD 0
  loops := assoc []
  labels := assoc []
  joins := assoc []
  xl i e := match e with
    | .nxt => assoc [] i
    | .ret => assoc [] i
    | .exit j => (assoc [] i).bind fun l => assoc l j
    | .goto j => (assoc [] i).bind fun l => assoc l j
noncomputable def print_Aggregate_L : List Code := selI [] (loopsOf print_Aggregate_code)
noncomputable def print_Aggregate_J : List Code := selI [] (joinsOf print_Aggregate_code)
noncomputable def print_Aggregate_S : List Code := scopesOf print_Aggregate_code
theorem print_Aggregate_cok {ρ : Type} (k : Nat) : COK (print_Aggregate_cfg (ρ := ρ) k) (print_Aggregate_G k) print_Aggregate_code :=
  cok_of (tl := []) (tj := []) (tb := []) rfl rfl rfl (nil_all (by kernel_rfl)) (nil_all (by kernel_rfl)) (fun p hp => by cases hp)
noncomputable def print_Aggregate_enc (r : Bool) : AV UU := .pv (.bool r)
noncomputable def print_Aggregate_dec (v : AV UU) (_ : List (List (AV UU))) : Option Bool :=
asB v fun r0 =>
some r0
theorem print_Aggregate_dec_enc (v : AV UU) (b : List (List (AV UU))) (r : Bool) (h : print_Aggregate_dec v b = some r) : v = print_Aggregate_enc r := by
  unfold print_Aggregate_dec at h
  replace h := asB_inv h; obtain ⟨r0, rfl, h⟩ := h
  cases h
  rfl
theorem print_Aggregate_eq (k : Nat) (op0 : Int) : bodyK UX (print_Aggregate_cfg k) (print_Aggregate_G k) Tryd.f47 [.pv (.int .i64 op0)] [] print_Aggregate_dec = print_Aggregate k op0 := by kernel_rfl
theorem print_Aggregate_con (k : Nat) (op0 : Int) (r : Bool) (h : print_Aggregate k op0 = some r) : Con (X := UX) Tryd.prog 47 [.pv (.int .i64 op0)] [] (print_Aggregate_enc r) [] :=
  con_of_body xok tok Tryd.func47 print_Aggregate_body (print_Aggregate_gok k) rfl (print_Aggregate_cok k) (of_decide_eq_true (by kernel_rfl)) print_Aggregate_dec_enc ((print_Aggregate_eq k op0).trans h)
noncomputable def print_Aggregate_an {ρ : Type} (k : Nat) : An UX ρ := fun args bx K =>
popA args fun v1 a2 =>
asI .i64 v1 fun op0 =>
popN a2 <|
popN bx <|
(print_Aggregate k op0).bind fun r => K (print_Aggregate_enc r) []
theorem print_Aggregate_ok {ρ : Type} (k : Nat) : AnsOK Tryd.prog 47 (print_Aggregate_an (ρ := ρ) k) := by
  intro args bx K r h
  unfold print_Aggregate_an at h
  replace h := popA_inv h; obtain ⟨v1, a2, rfl, h⟩ := h
  replace h := asI_inv h; obtain ⟨op0, rfl, h⟩ := h
  replace h := popN_inv h; obtain ⟨rfl, h⟩ := h
  replace h := popN_inv h; obtain ⟨rfl, h⟩ := h
  replace h := bind_inv h
  obtain ⟨x, hx, h⟩ := h
  exact ⟨there_of Tryd.func47 (by kernel_rfl) print_Aggregate_body, _, _, h, print_Aggregate_con k op0 x hx⟩

/-! cadastre/print.Function -/
noncomputable def print_Function_code : Code := match Tryd.f32.body with | some c => c | none => .skip
theorem print_Function_body : Tryd.f32.body = some print_Function_code := by kernel_rfl
noncomputable def print_Function_G {ρ : Type} (k : Nat) : Ans UX ρ := gk 47 (print_Aggregate_an k) (gnil)
theorem print_Function_gok {ρ : Type} (k : Nat) : GOK Tryd.prog (print_Function_G (ρ := ρ) k) := gok_cons (print_Aggregate_ok k) (gok_nil)
noncomputable def print_Function_cfg {ρ : Type} (k : Nat) : Cfg UX ρ where
  live i := (assoc [(0, [0]), (1, [0])] i).getD []
  boxes i := (assoc [(0, []), (1, [])] i).getD []
  tk i := (assoc [] i).getD []
  n := 13
  labelR l := (assoc [] l).getD 0
  loops := assoc []
  labels := assoc []
  joins := assoc []
  xl i e := match e with
    | .nxt => assoc [] i
    | .ret => assoc [] i
    | .exit j => (assoc [] i).bind fun l => assoc l j
    | .goto j => (assoc [] i).bind fun l => assoc l j
noncomputable def print_Function_L : List Code := selI [] (loopsOf print_Function_code)
noncomputable def print_Function_J : List Code := selI [] (joinsOf print_Function_code)
noncomputable def print_Function_S : List Code := scopesOf print_Function_code
theorem print_Function_cok {ρ : Type} (k : Nat) : COK (print_Function_cfg (ρ := ρ) k) (print_Function_G k) print_Function_code :=
  cok_of (tl := []) (tj := []) (tb := []) rfl rfl rfl (nil_all (by kernel_rfl)) (nil_all (by kernel_rfl)) (fun p hp => by cases hp)
noncomputable def print_Function_enc (r : Bool) : AV UU := .pv (.bool r)
noncomputable def print_Function_dec (v : AV UU) (_ : List (List (AV UU))) : Option Bool :=
asB v fun r0 =>
some r0
theorem print_Function_dec_enc (v : AV UU) (b : List (List (AV UU))) (r : Bool) (h : print_Function_dec v b = some r) : v = print_Function_enc r := by
  unfold print_Function_dec at h
  replace h := asB_inv h; obtain ⟨r0, rfl, h⟩ := h
  cases h
  rfl
theorem print_Function_eq (k : Nat) (op0 : Int) : bodyK UX (print_Function_cfg k) (print_Function_G k) Tryd.f32 [.pv (.int .i64 op0)] [] print_Function_dec = print_Function k op0 := by kernel_rfl
theorem print_Function_con (k : Nat) (op0 : Int) (r : Bool) (h : print_Function k op0 = some r) : Con (X := UX) Tryd.prog 32 [.pv (.int .i64 op0)] [] (print_Function_enc r) [] :=
  con_of_body xok tok Tryd.func32 print_Function_body (print_Function_gok k) rfl (print_Function_cok k) (of_decide_eq_true (by kernel_rfl)) print_Function_dec_enc ((print_Function_eq k op0).trans h)
noncomputable def print_Function_an {ρ : Type} (k : Nat) : An UX ρ := fun args bx K =>
popA args fun v1 a2 =>
asI .i64 v1 fun op0 =>
popN a2 <|
popN bx <|
(print_Function k op0).bind fun r => K (print_Function_enc r) []
theorem print_Function_ok {ρ : Type} (k : Nat) : AnsOK Tryd.prog 32 (print_Function_an (ρ := ρ) k) := by
  intro args bx K r h
  unfold print_Function_an at h
  replace h := popA_inv h; obtain ⟨v1, a2, rfl, h⟩ := h
  replace h := asI_inv h; obtain ⟨op0, rfl, h⟩ := h
  replace h := popN_inv h; obtain ⟨rfl, h⟩ := h
  replace h := popN_inv h; obtain ⟨rfl, h⟩ := h
  replace h := bind_inv h
  obtain ⟨x, hx, h⟩ := h
  exact ⟨there_of Tryd.func32 (by kernel_rfl) print_Function_body, _, _, h, print_Function_con k op0 x hx⟩

/-! (*cadastre/print.writer).put -/
noncomputable def print_writer_put_p0_code : Code := match Tryd.f29.body with | some c => c | none => .skip
theorem print_writer_put_p0_body : Tryd.f29.body = some print_writer_put_p0_code := by kernel_rfl
noncomputable def print_writer_put_p0_G {ρ : Type} (k : Nat) : Ans UX ρ := gnil
theorem print_writer_put_p0_gok {ρ : Type} (k : Nat) : GOK Tryd.prog (print_writer_put_p0_G (ρ := ρ) k) := gok_nil
noncomputable def print_writer_put_p0_j6_s {ρ : Type} (k : Nat) : Run UX ρ := fun s K =>
popS 0 s.env fun v1 e2 =>
asP 1000 0 v1 <|
popS 1 e2 fun v3 e4 =>
as_ls v3 fun l1 =>
popS 4 e4 fun v5 e6 =>
asI .i64 v5 fun i4 =>
popS 5 e6 fun v7 e8 =>
asS v7 fun s5 =>
popN e8 <|
popB 1000 s.hp fun c9 e10 =>
popA c9 fun v11 c12 =>
asO_li_u8 v11 fun t1000_0 =>
popA c12 fun v13 c14 =>
asB v13 fun z15 =>
popN c14 <|
popN e10 <|
print_writer_put_p0_j6 k (fun l1 i4 t1000_0 t1000_1 => K (.goto 0) ⟨[(0, .ptr 1000 0), (1, .pv (.typ (.ls l1))), (4, .pv (.int .i64 i4))], [(1000, [.own (.li_u8 t1000_0), .pv (.bool t1000_1)])]⟩) l1 i4 s5 t1000_0 z15
noncomputable def print_writer_put_p0_j5_s {ρ : Type} (k : Nat) : Run UX ρ := fun s K =>
popS 0 s.env fun v1 e2 =>
asP 1000 0 v1 <|
popS 1 e2 fun v3 e4 =>
as_ls v3 fun l1 =>
popS 4 e4 fun v5 e6 =>
asI .i64 v5 fun i4 =>
popS 5 e6 fun v7 e8 =>
asS v7 fun s5 =>
popN e8 <|
popB 1000 s.hp fun c9 e10 =>
popA c9 fun v11 c12 =>
asO_li_u8 v11 fun t1000_0 =>
popA c12 fun v13 c14 =>
asB v13 fun z15 =>
popN c14 <|
popN e10 <|
print_writer_put_p0_j5 k (fun l1 i4 t1000_0 t1000_1 => K (.goto 0) ⟨[(0, .ptr 1000 0), (1, .pv (.typ (.ls l1))), (4, .pv (.int .i64 i4))], [(1000, [.own (.li_u8 t1000_0), .pv (.bool t1000_1)])]⟩) l1 i4 s5 t1000_0 z15
noncomputable def print_writer_put_p0_j1_s {ρ : Type} (k : Nat) : Run UX ρ := fun s K =>
popS 0 s.env fun v1 e2 =>
asP 1000 0 v1 <|
popS 1 e2 fun v3 e4 =>
as_ls v3 fun l1 =>
popS 4 e4 fun v5 e6 =>
asI .i64 v5 fun i4 =>
popN e6 <|
popB 1000 s.hp fun c7 e8 =>
popA c7 fun v9 c10 =>
asO_li_u8 v9 fun t1000_0 =>
popA c10 fun v11 c12 =>
asB v11 fun z13 =>
popN c12 <|
popN e8 <|
print_writer_put_p0_j1 k (fun t1000_0 t1000_1 => K .ret ⟨[], [(1000, [.own (.li_u8 t1000_0), .pv (.bool t1000_1)])]⟩) (fun l1 i4 s5 t1000_0 t1000_1 => K (.goto 1) ⟨[(0, .ptr 1000 0), (1, .pv (.typ (.ls l1))), (4, .pv (.int .i64 i4)), (5, .pv (.str s5))], [(1000, [.own (.li_u8 t1000_0), .pv (.bool t1000_1)])]⟩) (fun l1 i4 t1000_0 t1000_1 => K (.goto 0) ⟨[(0, .ptr 1000 0), (1, .pv (.typ (.ls l1))), (4, .pv (.int .i64 i4))], [(1000, [.own (.li_u8 t1000_0), .pv (.bool t1000_1)])]⟩) l1 i4 t1000_0 z13
noncomputable def print_writer_put_p0_g0_s {ρ : Type} (k : Nat) : Run UX ρ := fun s K =>
popS 0 s.env fun v1 e2 =>
asP 1000 0 v1 <|
popS 1 e2 fun v3 e4 =>
as_ls v3 fun l1 =>
popS 4 e4 fun v5 e6 =>
asI .i64 v5 fun i4 =>
popN e6 <|
popB 1000 s.hp fun c7 e8 =>
popA c7 fun v9 c10 =>
asO_li_u8 v9 fun t1000_0 =>
popA c10 fun v11 c12 =>
asB v11 fun z13 =>
popN c12 <|
popN e8 <|
print_writer_put_p0_g0 k (fun t1000_0 t1000_1 => K .ret ⟨[], [(1000, [.own (.li_u8 t1000_0), .pv (.bool t1000_1)])]⟩) k l1 i4 t1000_0 z13
noncomputable def print_writer_put_p0_cfg {ρ : Type} (k : Nat) : Cfg UX ρ where
  live i := (assoc [(0, [0, 1]), (1, [0, 1, 4]), (2, [0, 1, 4]), (3, [0, 1, 4, 5]), (4, [0, 1, 4, 5]), (5, [0, 1, 4, 5]), (6, [0, 1, 4, 5]), (7, [0, 1, 4, 5])] i).getD []
  boxes i := (assoc [(0, []), (1, []), (2, []), (3, []), (4, []), (5, []), (6, []), (7, [])] i).getD []
  tk i := (assoc [] i).getD []
  n := 67
  labelR l := (assoc [(0, 1)] l).getD 0
  loops := assoc []
  labels := assoc [(0, print_writer_put_p0_g0_s k)]
  joins := assoc [(6, print_writer_put_p0_j6_s k), (5, print_writer_put_p0_j5_s k), (1, print_writer_put_p0_j1_s k)]
  xl i e := match e with
    | .nxt => assoc [] i
    | .ret => assoc [(1, ([], [])), (1, ([], []))] i
    | .exit j => (assoc [] i).bind fun l => assoc l j
    | .goto j => (assoc [(6, [(0, ([0, 1, 4], []))]), (5, [(0, ([0, 1, 4], []))]), (1, [(1, ([0, 1, 4, 5], [])), (0, ([0, 1, 4], []))])] i).bind fun l => assoc l j
noncomputable def print_writer_put_p0_L : List Code := selI [] (loopsOf print_writer_put_p0_code)
noncomputable def print_writer_put_p0_J : List Code := selI [6, 5, 1] (joinsOf print_writer_put_p0_code)
noncomputable def print_writer_put_p0_S : List Code := scopesOf print_writer_put_p0_code
theorem print_writer_put_p0_j1_eq0 {ρ : Type} (k : Nat) (K : Ex → St UU → Option ρ) (l1 : List ByteArray) (i4 : Int) (t1000_0 : List Int) (t1000_1 : Bool) : exec UX (print_writer_put_p0_cfg k) (print_writer_put_p0_G k) (print_writer_put_p0_J.getD 0 .skip) ⟨[(0, .ptr 1000 0), (1, .pv (.typ (.ls l1))), (4, .pv (.int .i64 i4))], [(1000, [.own (.li_u8 t1000_0), .pv (.bool t1000_1)])]⟩ (nrmK UX (print_writer_put_p0_cfg k) 1 K) = print_writer_put_p0_j1 k (fun t1000_0 t1000_1 => K .ret ⟨[], [(1000, [.own (.li_u8 t1000_0), .pv (.bool t1000_1)])]⟩) (fun l1 i4 s5 t1000_0 t1000_1 => K (.goto 1) ⟨[(0, .ptr 1000 0), (1, .pv (.typ (.ls l1))), (4, .pv (.int .i64 i4)), (5, .pv (.str s5))], [(1000, [.own (.li_u8 t1000_0), .pv (.bool t1000_1)])]⟩) (fun l1 i4 t1000_0 t1000_1 => K (.goto 0) ⟨[(0, .ptr 1000 0), (1, .pv (.typ (.ls l1))), (4, .pv (.int .i64 i4))], [(1000, [.own (.li_u8 t1000_0), .pv (.bool t1000_1)])]⟩) l1 i4 t1000_0 t1000_1 := by kernel_rfl
theorem print_writer_put_p0_j1_ok0 {ρ : Type} (k : Nat) : JoinOK UX (print_writer_put_p0_cfg (ρ := ρ) k) (print_writer_put_p0_G k) (print_writer_put_p0_J.getD 0 .skip) 1 (print_writer_put_p0_j1_s k) := by
  intro s K r h
  obtain ⟨env, hp⟩ := s
  unfold print_writer_put_p0_j1_s at h
  replace h := popS_inv h; obtain ⟨v1, e2, rfl, h⟩ := h
  replace h := asP_inv h; obtain ⟨rfl, h⟩ := h
  replace h := popS_inv h; obtain ⟨v3, e4, rfl, h⟩ := h
  replace h := as_ls_inv h; obtain ⟨l1, rfl, h⟩ := h
  replace h := popS_inv h; obtain ⟨v5, e6, rfl, h⟩ := h
  replace h := asI_inv h; obtain ⟨i4, rfl, h⟩ := h
  replace h := popN_inv h; obtain ⟨rfl, h⟩ := h
  replace h := popB_inv h; obtain ⟨c7, e8, rfl, h⟩ := h
  replace h := popA_inv h; obtain ⟨v9, c10, rfl, h⟩ := h
  replace h := asO_li_u8_inv h; obtain ⟨t1000_0, rfl, h⟩ := h
  replace h := popA_inv h; obtain ⟨v11, c12, rfl, h⟩ := h
  replace h := asB_inv h; obtain ⟨z13, rfl, h⟩ := h
  replace h := popN_inv h; obtain ⟨rfl, h⟩ := h
  replace h := popN_inv h; obtain ⟨rfl, h⟩ := h
  exact (print_writer_put_p0_j1_eq0 k K l1 i4 t1000_0 z13).trans h
theorem print_writer_put_p0_j5_eq1 {ρ : Type} (k : Nat) (K : Ex → St UU → Option ρ) (l1 : List ByteArray) (i4 : Int) (s5 : ByteArray) (t1000_0 : List Int) (t1000_1 : Bool) : exec UX (print_writer_put_p0_cfg k) (print_writer_put_p0_G k) (print_writer_put_p0_J.getD 1 .skip) ⟨[(0, .ptr 1000 0), (1, .pv (.typ (.ls l1))), (4, .pv (.int .i64 i4)), (5, .pv (.str s5))], [(1000, [.own (.li_u8 t1000_0), .pv (.bool t1000_1)])]⟩ (nrmK UX (print_writer_put_p0_cfg k) 5 K) = print_writer_put_p0_j5 k (fun l1 i4 t1000_0 t1000_1 => K (.goto 0) ⟨[(0, .ptr 1000 0), (1, .pv (.typ (.ls l1))), (4, .pv (.int .i64 i4))], [(1000, [.own (.li_u8 t1000_0), .pv (.bool t1000_1)])]⟩) l1 i4 s5 t1000_0 t1000_1 := by kernel_rfl
theorem print_writer_put_p0_j5_ok1 {ρ : Type} (k : Nat) : JoinOK UX (print_writer_put_p0_cfg (ρ := ρ) k) (print_writer_put_p0_G k) (print_writer_put_p0_J.getD 1 .skip) 5 (print_writer_put_p0_j5_s k) := by
  intro s K r h
  obtain ⟨env, hp⟩ := s
  unfold print_writer_put_p0_j5_s at h
  replace h := popS_inv h; obtain ⟨v1, e2, rfl, h⟩ := h
  replace h := asP_inv h; obtain ⟨rfl, h⟩ := h
  replace h := popS_inv h; obtain ⟨v3, e4, rfl, h⟩ := h
  replace h := as_ls_inv h; obtain ⟨l1, rfl, h⟩ := h
  replace h := popS_inv h; obtain ⟨v5, e6, rfl, h⟩ := h
  replace h := asI_inv h; obtain ⟨i4, rfl, h⟩ := h
  replace h := popS_inv h; obtain ⟨v7, e8, rfl, h⟩ := h
  replace h := asS_inv h; obtain ⟨s5, rfl, h⟩ := h
  replace h := popN_inv h; obtain ⟨rfl, h⟩ := h
  replace h := popB_inv h; obtain ⟨c9, e10, rfl, h⟩ := h
  replace h := popA_inv h; obtain ⟨v11, c12, rfl, h⟩ := h
  replace h := asO_li_u8_inv h; obtain ⟨t1000_0, rfl, h⟩ := h
  replace h := popA_inv h; obtain ⟨v13, c14, rfl, h⟩ := h
  replace h := asB_inv h; obtain ⟨z15, rfl, h⟩ := h
  replace h := popN_inv h; obtain ⟨rfl, h⟩ := h
  replace h := popN_inv h; obtain ⟨rfl, h⟩ := h
  exact (print_writer_put_p0_j5_eq1 k K l1 i4 s5 t1000_0 z15).trans h
theorem print_writer_put_p0_j6_eq2 {ρ : Type} (k : Nat) (K : Ex → St UU → Option ρ) (l1 : List ByteArray) (i4 : Int) (s5 : ByteArray) (t1000_0 : List Int) (t1000_1 : Bool) : exec UX (print_writer_put_p0_cfg k) (print_writer_put_p0_G k) (print_writer_put_p0_J.getD 2 .skip) ⟨[(0, .ptr 1000 0), (1, .pv (.typ (.ls l1))), (4, .pv (.int .i64 i4)), (5, .pv (.str s5))], [(1000, [.own (.li_u8 t1000_0), .pv (.bool t1000_1)])]⟩ (nrmK UX (print_writer_put_p0_cfg k) 6 K) = print_writer_put_p0_j6 k (fun l1 i4 t1000_0 t1000_1 => K (.goto 0) ⟨[(0, .ptr 1000 0), (1, .pv (.typ (.ls l1))), (4, .pv (.int .i64 i4))], [(1000, [.own (.li_u8 t1000_0), .pv (.bool t1000_1)])]⟩) l1 i4 s5 t1000_0 t1000_1 := by kernel_rfl
theorem print_writer_put_p0_j6_ok2 {ρ : Type} (k : Nat) : JoinOK UX (print_writer_put_p0_cfg (ρ := ρ) k) (print_writer_put_p0_G k) (print_writer_put_p0_J.getD 2 .skip) 6 (print_writer_put_p0_j6_s k) := by
  intro s K r h
  obtain ⟨env, hp⟩ := s
  unfold print_writer_put_p0_j6_s at h
  replace h := popS_inv h; obtain ⟨v1, e2, rfl, h⟩ := h
  replace h := asP_inv h; obtain ⟨rfl, h⟩ := h
  replace h := popS_inv h; obtain ⟨v3, e4, rfl, h⟩ := h
  replace h := as_ls_inv h; obtain ⟨l1, rfl, h⟩ := h
  replace h := popS_inv h; obtain ⟨v5, e6, rfl, h⟩ := h
  replace h := asI_inv h; obtain ⟨i4, rfl, h⟩ := h
  replace h := popS_inv h; obtain ⟨v7, e8, rfl, h⟩ := h
  replace h := asS_inv h; obtain ⟨s5, rfl, h⟩ := h
  replace h := popN_inv h; obtain ⟨rfl, h⟩ := h
  replace h := popB_inv h; obtain ⟨c9, e10, rfl, h⟩ := h
  replace h := popA_inv h; obtain ⟨v11, c12, rfl, h⟩ := h
  replace h := asO_li_u8_inv h; obtain ⟨t1000_0, rfl, h⟩ := h
  replace h := popA_inv h; obtain ⟨v13, c14, rfl, h⟩ := h
  replace h := asB_inv h; obtain ⟨z15, rfl, h⟩ := h
  replace h := popN_inv h; obtain ⟨rfl, h⟩ := h
  replace h := popN_inv h; obtain ⟨rfl, h⟩ := h
  exact (print_writer_put_p0_j6_eq2 k K l1 i4 s5 t1000_0 z15).trans h
noncomputable def print_writer_put_p0_g0_f0 {ρ : Type} (k : Nat) : Run UX ρ := (suff UX (print_writer_put_p0_cfg k) (print_writer_put_p0_G k) (print_writer_put_p0_S.getD 0 .skip) 0).getD fun _ _ => none
theorem print_writer_put_p0_g0_eq0 {ρ : Type} (k : Nat) (K : Ex → St UU → Option ρ) : ∀ (n : Nat) (v : (List ByteArray) × Int × (List Int) × Bool), scopeN UX (fun l s => s.at (print_writer_put_p0_cfg (ρ := ρ) k).live (print_writer_put_p0_cfg (ρ := ρ) k).boxes (some ((print_writer_put_p0_cfg (ρ := ρ) k).labelR l))) (suff UX (print_writer_put_p0_cfg k) (print_writer_put_p0_G k) (print_writer_put_p0_S.getD 0 .skip)) (fun l => ((print_writer_put_p0_cfg (ρ := ρ) k).labels l).isSome) n (print_writer_put_p0_g0_f0 k) ⟨[(0, .ptr 1000 0), (1, .pv (.typ (.ls v.1))), (4, .pv (.int .i64 v.2.1))], [(1000, [.own (.li_u8 v.2.2.1), .pv (.bool v.2.2.2)])]⟩ (nrmK UX (print_writer_put_p0_cfg k) ((print_writer_put_p0_cfg (ρ := ρ) k).labelR 0) K) = print_writer_put_p0_g0 k (fun t1000_0 t1000_1 => K .ret ⟨[], [(1000, [.own (.li_u8 t1000_0), .pv (.bool t1000_1)])]⟩) n v.1 v.2.1 v.2.2.1 v.2.2.2 :=
  scope_rec (X := UX) (fun _ => print_writer_put_p0_g0_f0 k) (fun v => ⟨[(0, .ptr 1000 0), (1, .pv (.typ (.ls v.1))), (4, .pv (.int .i64 v.2.1))], [(1000, [.own (.li_u8 v.2.2.1), .pv (.bool v.2.2.2)])]⟩) (fun rec v => print_writer_put_p0_g0_b k (fun t1000_0 t1000_1 => K .ret ⟨[], [(1000, [.own (.li_u8 t1000_0), .pv (.bool t1000_1)])]⟩) (fun l1 i4 t1000_0 t1000_1 => rec (l1, i4, t1000_0, t1000_1)) v.1 v.2.1 v.2.2.1 v.2.2.2) (fun n v => print_writer_put_p0_g0 k (fun t1000_0 t1000_1 => K .ret ⟨[], [(1000, [.own (.li_u8 t1000_0), .pv (.bool t1000_1)])]⟩) n v.1 v.2.1 v.2.2.1 v.2.2.2) (fun n v => by kernel_rfl) (fun _ => rfl) (fun _ _ => rfl)
theorem print_writer_put_p0_g0_ok0 {ρ : Type} (k : Nat) : LabOK UX (print_writer_put_p0_cfg (ρ := ρ) k) (print_writer_put_p0_G k) (print_writer_put_p0_S.getD 0 .skip) 0 (print_writer_put_p0_g0_s k) := by
  intro f hf s K r h
  have hf : print_writer_put_p0_g0_f0 k = f := by unfold print_writer_put_p0_g0_f0; rw [hf]; rfl
  subst hf
  obtain ⟨env, hp⟩ := s
  unfold print_writer_put_p0_g0_s at h
  replace h := popS_inv h; obtain ⟨v1, e2, rfl, h⟩ := h
  replace h := asP_inv h; obtain ⟨rfl, h⟩ := h
  replace h := popS_inv h; obtain ⟨v3, e4, rfl, h⟩ := h
  replace h := as_ls_inv h; obtain ⟨l1, rfl, h⟩ := h
  replace h := popS_inv h; obtain ⟨v5, e6, rfl, h⟩ := h
  replace h := asI_inv h; obtain ⟨i4, rfl, h⟩ := h
  replace h := popN_inv h; obtain ⟨rfl, h⟩ := h
  replace h := popB_inv h; obtain ⟨c7, e8, rfl, h⟩ := h
  replace h := popA_inv h; obtain ⟨v9, c10, rfl, h⟩ := h
  replace h := asO_li_u8_inv h; obtain ⟨t1000_0, rfl, h⟩ := h
  replace h := popA_inv h; obtain ⟨v11, c12, rfl, h⟩ := h
  replace h := asB_inv h; obtain ⟨z13, rfl, h⟩ := h
  replace h := popN_inv h; obtain ⟨rfl, h⟩ := h
  replace h := popN_inv h; obtain ⟨rfl, h⟩ := h
  exact ⟨k, (print_writer_put_p0_g0_eq0 k K k (l1, i4, t1000_0, z13)).trans h⟩
theorem print_writer_put_p0_cok {ρ : Type} (k : Nat) : COK (print_writer_put_p0_cfg (ρ := ρ) k) (print_writer_put_p0_G k) print_writer_put_p0_code :=
  cok_of (tl := []) (tj := [(6, print_writer_put_p0_j6_s k), (5, print_writer_put_p0_j5_s k), (1, print_writer_put_p0_j1_s k)]) (tb := [(0, print_writer_put_p0_g0_s k)]) rfl rfl rfl (nil_all (by kernel_rfl)) (all_nth 3 (by kernel_rfl) ⟨join_case (by kernel_rfl) rfl (print_writer_put_p0_j6_ok2 k), join_case (by kernel_rfl) rfl (print_writer_put_p0_j5_ok1 k), join_case (by kernel_rfl) rfl (print_writer_put_p0_j1_ok0 k), trivial⟩) (fun p hp => by
    simp only [List.mem_cons, List.not_mem_nil, or_false] at hp
    subst hp
    · exact all_nth 1 (by kernel_rfl) ⟨print_writer_put_p0_g0_ok0 k, trivial⟩)
noncomputable def print_writer_put_p0_enc (r : (Unit) × S51) : AV UU := .pv (.tup [])
noncomputable def print_writer_put_p0_bx (r : (Unit) × S51) : List (List (AV UU)) := [[.own (.li_u8 r.2.f0), .pv (.bool r.2.f1)]]
noncomputable def print_writer_put_p0_dec (v : AV UU) (b : List (List (AV UU))) : Option ((Unit) × S51) :=
asT v fun q1 =>
popN q1 <|
popA b fun c2 b3 =>
popA c2 fun v4 c5 =>
asO_li_u8 v4 fun z6 =>
popA c5 fun v7 c8 =>
asB v7 fun z9 =>
popN c8 <|
popN b3 <|
some ((), (⟨z6, z9⟩ : S51))
theorem print_writer_put_p0_dec_enc (v : AV UU) (b : List (List (AV UU))) (r : (Unit) × S51) (_ : b.length = 1) (h : print_writer_put_p0_dec v b = some r) : v = print_writer_put_p0_enc r ∧ b = print_writer_put_p0_bx r := by
  unfold print_writer_put_p0_dec at h
  replace h := asT_inv h; obtain ⟨q1, rfl, h⟩ := h
  replace h := popN_inv h; obtain ⟨rfl, h⟩ := h
  replace h := popA_inv h; obtain ⟨c2, b3, rfl, h⟩ := h
  replace h := popA_inv h; obtain ⟨v4, c5, rfl, h⟩ := h
  replace h := asO_li_u8_inv h; obtain ⟨z6, rfl, h⟩ := h
  replace h := popA_inv h; obtain ⟨v7, c8, rfl, h⟩ := h
  replace h := asB_inv h; obtain ⟨z9, rfl, h⟩ := h
  replace h := popN_inv h; obtain ⟨rfl, h⟩ := h
  replace h := popN_inv h; obtain ⟨rfl, h⟩ := h
  cases h
  exact ⟨rfl, rfl⟩
theorem print_writer_put_p0_eq (k : Nat) (l1 : List ByteArray) (bx0 : S51) : bodyK UX (print_writer_put_p0_cfg k) (print_writer_put_p0_G k) Tryd.f29 [.ptr 1000 0, .pv (.typ (.ls l1))] [[.own (.li_u8 bx0.f0), .pv (.bool bx0.f1)]] print_writer_put_p0_dec = print_writer_put_p0 k l1 bx0 := by kernel_rfl
theorem print_writer_put_p0_con (k : Nat) (l1 : List ByteArray) (bx0 : S51) (r : (Unit) × S51) (h : print_writer_put_p0 k l1 bx0 = some r) : Con (X := UX) Tryd.prog 29 [.ptr 1000 0, .pv (.typ (.ls l1))] [[.own (.li_u8 bx0.f0), .pv (.bool bx0.f1)]] (print_writer_put_p0_enc r) (print_writer_put_p0_bx r) :=
  con_of_bodyB (args := [.ptr 1000 0, .pv (.typ (.ls l1))]) (bx := [[.own (.li_u8 bx0.f0), .pv (.bool bx0.f1)]]) xok tok Tryd.func29 print_writer_put_p0_body (print_writer_put_p0_gok k) rfl (print_writer_put_p0_cok k) (of_decide_eq_true (by kernel_rfl)) (.inr (of_decide_eq_true (by kernel_rfl))) (fun v b r hl => print_writer_put_p0_dec_enc v b r hl) ((print_writer_put_p0_eq k l1 bx0).trans h)
noncomputable def print_writer_put_p0_an {ρ : Type} (k : Nat) : An UX ρ := fun args bx K =>
popA args fun v1 a2 =>
asP 1000 0 v1 <|
popA a2 fun v3 a4 =>
as_ls v3 fun l1 =>
popN a4 <|
popA bx fun c5 b6 =>
popA c5 fun v7 c8 =>
asO_li_u8 v7 fun z9 =>
popA c8 fun v10 c11 =>
asB v10 fun z12 =>
popN c11 <|
popN b6 <|
(print_writer_put_p0 k l1 (⟨z9, z12⟩ : S51)).bind fun r => K (print_writer_put_p0_enc r) (print_writer_put_p0_bx r)
theorem print_writer_put_p0_ok {ρ : Type} (k : Nat) : AnsOK Tryd.prog 29 (print_writer_put_p0_an (ρ := ρ) k) := by
  intro args bx K r h
  unfold print_writer_put_p0_an at h
  replace h := popA_inv h; obtain ⟨v1, a2, rfl, h⟩ := h
  replace h := asP_inv h; obtain ⟨rfl, h⟩ := h
  replace h := popA_inv h; obtain ⟨v3, a4, rfl, h⟩ := h
  replace h := as_ls_inv h; obtain ⟨l1, rfl, h⟩ := h
  replace h := popN_inv h; obtain ⟨rfl, h⟩ := h
  replace h := popA_inv h; obtain ⟨c5, b6, rfl, h⟩ := h
  replace h := popA_inv h; obtain ⟨v7, c8, rfl, h⟩ := h
  replace h := asO_li_u8_inv h; obtain ⟨z9, rfl, h⟩ := h
  replace h := popA_inv h; obtain ⟨v10, c11, rfl, h⟩ := h
  replace h := asB_inv h; obtain ⟨z12, rfl, h⟩ := h
  replace h := popN_inv h; obtain ⟨rfl, h⟩ := h
  replace h := popN_inv h; obtain ⟨rfl, h⟩ := h
  replace h := bind_inv h
  obtain ⟨x, hx, h⟩ := h
  exact ⟨there_of Tryd.func29 (by kernel_rfl) print_writer_put_p0_body, _, _, h, print_writer_put_p0_con k l1 (⟨z9, z12⟩ : S51) x hx⟩

/-! (*cadastre/print.writer).literal -/
noncomputable def print_writer_literal_p0_code : Code := match Tryd.f28.body with | some c => c | none => .skip
theorem print_writer_literal_p0_body : Tryd.f28.body = some print_writer_literal_p0_code := by kernel_rfl
noncomputable def print_writer_literal_p0_G {ρ : Type} (k : Nat) : Ans UX ρ := gk 29 (print_writer_put_p0_an k) (gk 44 (strconv_FormatInt_an k) (gk 45 (print_quote_an k) (gk 46 (print_hex_an k) (gnil))))
theorem print_writer_literal_p0_gok {ρ : Type} (k : Nat) : GOK Tryd.prog (print_writer_literal_p0_G (ρ := ρ) k) := gok_cons (print_writer_put_p0_ok k) (gok_cons (strconv_FormatInt_ok k) (gok_cons (print_quote_ok k) (gok_cons (print_hex_ok k) (gok_nil))))
noncomputable def print_writer_literal_p0_cfg {ρ : Type} (k : Nat) : Cfg UX ρ where
  live i := (assoc [(0, [0, 1]), (1, [0, 3]), (2, [0, 3]), (3, [0, 3, 5]), (4, [0]), (5, [0, 3, 5]), (6, [0, 3]), (7, [0, 3, 5]), (8, [0, 3])] i).getD []
  boxes i := (assoc [(0, []), (1, [3]), (2, [3]), (3, [3]), (4, []), (5, [3]), (6, [3]), (7, [3]), (8, [3])] i).getD []
  tk i := (assoc [] i).getD []
  n := 35
  labelR l := (assoc [] l).getD 0
  loops := assoc []
  labels := assoc []
  joins := assoc []
  xl i e := match e with
    | .nxt => assoc [] i
    | .ret => assoc [] i
    | .exit j => (assoc [] i).bind fun l => assoc l j
    | .goto j => (assoc [] i).bind fun l => assoc l j
noncomputable def print_writer_literal_p0_L : List Code := selI [] (loopsOf print_writer_literal_p0_code)
noncomputable def print_writer_literal_p0_J : List Code := selI [] (joinsOf print_writer_literal_p0_code)
noncomputable def print_writer_literal_p0_S : List Code := scopesOf print_writer_literal_p0_code
theorem print_writer_literal_p0_cok {ρ : Type} (k : Nat) : COK (print_writer_literal_p0_cfg (ρ := ρ) k) (print_writer_literal_p0_G k) print_writer_literal_p0_code :=
  cok_of (tl := []) (tj := []) (tb := []) rfl rfl rfl (nil_all (by kernel_rfl)) (nil_all (by kernel_rfl)) (fun p hp => by cases hp)
noncomputable def print_writer_literal_p0_enc (r : (Unit) × S51) : AV UU := .pv (.tup [])
noncomputable def print_writer_literal_p0_bx (r : (Unit) × S51) : List (List (AV UU)) := [[.own (.li_u8 r.2.f0), .pv (.bool r.2.f1)]]
noncomputable def print_writer_literal_p0_dec (v : AV UU) (b : List (List (AV UU))) : Option ((Unit) × S51) :=
asT v fun q1 =>
popN q1 <|
popA b fun c2 b3 =>
popA c2 fun v4 c5 =>
asO_li_u8 v4 fun z6 =>
popA c5 fun v7 c8 =>
asB v7 fun z9 =>
popN c8 <|
popN b3 <|
some ((), (⟨z6, z9⟩ : S51))
theorem print_writer_literal_p0_dec_enc (v : AV UU) (b : List (List (AV UU))) (r : (Unit) × S51) (_ : b.length = 1) (h : print_writer_literal_p0_dec v b = some r) : v = print_writer_literal_p0_enc r ∧ b = print_writer_literal_p0_bx r := by
  unfold print_writer_literal_p0_dec at h
  replace h := asT_inv h; obtain ⟨q1, rfl, h⟩ := h
  replace h := popN_inv h; obtain ⟨rfl, h⟩ := h
  replace h := popA_inv h; obtain ⟨c2, b3, rfl, h⟩ := h
  replace h := popA_inv h; obtain ⟨v4, c5, rfl, h⟩ := h
  replace h := asO_li_u8_inv h; obtain ⟨z6, rfl, h⟩ := h
  replace h := popA_inv h; obtain ⟨v7, c8, rfl, h⟩ := h
  replace h := asB_inv h; obtain ⟨z9, rfl, h⟩ := h
  replace h := popN_inv h; obtain ⟨rfl, h⟩ := h
  replace h := popN_inv h; obtain ⟨rfl, h⟩ := h
  cases h
  exact ⟨rfl, rfl⟩
theorem print_writer_literal_p0_eq (k : Nat) (v1 : S23) (bx0 : S51) : bodyK UX (print_writer_literal_p0_cfg k) (print_writer_literal_p0_G k) Tryd.f28 [.ptr 1000 0, .pv (.typ (.s23 v1))] [[.own (.li_u8 bx0.f0), .pv (.bool bx0.f1)]] print_writer_literal_p0_dec = print_writer_literal_p0 k v1 bx0 := by kernel_rfl
theorem print_writer_literal_p0_con (k : Nat) (v1 : S23) (bx0 : S51) (r : (Unit) × S51) (h : print_writer_literal_p0 k v1 bx0 = some r) : Con (X := UX) Tryd.prog 28 [.ptr 1000 0, .pv (.typ (.s23 v1))] [[.own (.li_u8 bx0.f0), .pv (.bool bx0.f1)]] (print_writer_literal_p0_enc r) (print_writer_literal_p0_bx r) :=
  con_of_bodyB (args := [.ptr 1000 0, .pv (.typ (.s23 v1))]) (bx := [[.own (.li_u8 bx0.f0), .pv (.bool bx0.f1)]]) xok tok Tryd.func28 print_writer_literal_p0_body (print_writer_literal_p0_gok k) rfl (print_writer_literal_p0_cok k) (of_decide_eq_true (by kernel_rfl)) (.inr (of_decide_eq_true (by kernel_rfl))) (fun v b r hl => print_writer_literal_p0_dec_enc v b r hl) ((print_writer_literal_p0_eq k v1 bx0).trans h)
noncomputable def print_writer_literal_p0_an {ρ : Type} (k : Nat) : An UX ρ := fun args bx K =>
popA args fun v1 a2 =>
asP 1000 0 v1 <|
popA a2 fun v3 a4 =>
as_s23 v3 fun v1 =>
popN a4 <|
popA bx fun c5 b6 =>
popA c5 fun v7 c8 =>
asO_li_u8 v7 fun z9 =>
popA c8 fun v10 c11 =>
asB v10 fun z12 =>
popN c11 <|
popN b6 <|
(print_writer_literal_p0 k v1 (⟨z9, z12⟩ : S51)).bind fun r => K (print_writer_literal_p0_enc r) (print_writer_literal_p0_bx r)
theorem print_writer_literal_p0_ok {ρ : Type} (k : Nat) : AnsOK Tryd.prog 28 (print_writer_literal_p0_an (ρ := ρ) k) := by
  intro args bx K r h
  unfold print_writer_literal_p0_an at h
  replace h := popA_inv h; obtain ⟨v1, a2, rfl, h⟩ := h
  replace h := asP_inv h; obtain ⟨rfl, h⟩ := h
  replace h := popA_inv h; obtain ⟨v3, a4, rfl, h⟩ := h
  replace h := as_s23_inv h; obtain ⟨v1, rfl, h⟩ := h
  replace h := popN_inv h; obtain ⟨rfl, h⟩ := h
  replace h := popA_inv h; obtain ⟨c5, b6, rfl, h⟩ := h
  replace h := popA_inv h; obtain ⟨v7, c8, rfl, h⟩ := h
  replace h := asO_li_u8_inv h; obtain ⟨z9, rfl, h⟩ := h
  replace h := popA_inv h; obtain ⟨v10, c11, rfl, h⟩ := h
  replace h := asB_inv h; obtain ⟨z12, rfl, h⟩ := h
  replace h := popN_inv h; obtain ⟨rfl, h⟩ := h
  replace h := popN_inv h; obtain ⟨rfl, h⟩ := h
  replace h := bind_inv h
  obtain ⟨x, hx, h⟩ := h
  exact ⟨there_of Tryd.func28 (by kernel_rfl) print_writer_literal_p0_body, _, _, h, print_writer_literal_p0_con k v1 (⟨z9, z12⟩ : S51) x hx⟩

/-! (*cadastre/print.writer).expr -/
noncomputable def print_writer_expr_p0_code : Code := match Tryd.f19.body with | some c => c | none => .skip
theorem print_writer_expr_p0_body : Tryd.f19.body = some print_writer_expr_p0_code := by kernel_rfl
noncomputable def print_writer_expr_p0_G {ρ : Type} (k : Nat) : Ans UX ρ := gk 28 (print_writer_literal_p0_an k) (gk 29 (print_writer_put_p0_an k) (gk 32 (print_Function_an k) (gnil)))
theorem print_writer_expr_p0_gok {ρ : Type} (k : Nat) : GOK Tryd.prog (print_writer_expr_p0_G (ρ := ρ) k) := gok_cons (print_writer_literal_p0_ok k) (gok_cons (print_writer_put_p0_ok k) (gok_cons (print_Function_ok k) (gok_nil)))
noncomputable def print_writer_expr_p0_cfg {ρ : Type} (k : Nat) : Cfg UX ρ where
  live i := (assoc [(0, [0, 1]), (1, [2, 3]), (2, [2, 3]), (3, [2, 3]), (4, [2, 3]), (5, [2, 3]), (6, [2, 3]), (7, [2, 3]), (8, [2, 3]), (9, [2, 3]), (10, [2, 3]), (11, [2]), (12, [2]), (13, [2, 3]), (14, [2, 3]), (15, [2, 3]), (16, [2, 3]), (17, [2, 3]), (18, [2, 3]), (19, [2, 3]), (20, [2, 3]), (21, [2, 3]), (22, [2, 3]), (23, [2, 3]), (24, [2]), (25, [2, 3]), (26, [2, 3]), (27, [2])] i).getD []
  boxes i := (assoc [(0, []), (1, [2, 3]), (4, [2, 3]), (5, [2, 3]), (6, [2, 3]), (7, [2, 3]), (8, [2, 3]), (9, [2, 3]), (10, [2, 3]), (11, [2]), (12, [2]), (13, [2, 3]), (14, [2, 3]), (16, [2, 3]), (17, [2, 3]), (18, [2, 3]), (19, [2, 3]), (20, [2, 3]), (21, [2, 3]), (22, [2, 3]), (23, [2, 3]), (25, [2, 3]), (26, [2, 3])] i).getD []
  tk i := (assoc [(1000002, [56, 70])] i).getD []
  n := 124
  labelR l := (assoc [] l).getD 0
  loops := assoc []
  labels := assoc []
  joins := assoc []
  xl i e := match e with
    | .nxt => assoc [] i
    | .ret => assoc [] i
    | .exit j => (assoc [] i).bind fun l => assoc l j
    | .goto j => (assoc [] i).bind fun l => assoc l j
noncomputable def print_writer_expr_p0_L : List Code := selI [] (loopsOf print_writer_expr_p0_code)
noncomputable def print_writer_expr_p0_J : List Code := selI [] (joinsOf print_writer_expr_p0_code)
noncomputable def print_writer_expr_p0_S : List Code := scopesOf print_writer_expr_p0_code
theorem print_writer_expr_p0_cok {ρ : Type} (k : Nat) : COK (print_writer_expr_p0_cfg (ρ := ρ) k) (print_writer_expr_p0_G k) print_writer_expr_p0_code :=
  cok_of (tl := []) (tj := []) (tb := []) rfl rfl rfl (nil_all (by kernel_rfl)) (nil_all (by kernel_rfl)) (fun p hp => by cases hp)
noncomputable def print_writer_expr_p0_enc (r : (Unit) × S51) : AV UU := .pv (.tup [])
noncomputable def print_writer_expr_p0_bx (r : (Unit) × S51) : List (List (AV UU)) := [[.own (.li_u8 r.2.f0), .pv (.bool r.2.f1)]]
noncomputable def print_writer_expr_p0_dec (v : AV UU) (b : List (List (AV UU))) : Option ((Unit) × S51) :=
asT v fun q1 =>
popN q1 <|
popA b fun c2 b3 =>
popA c2 fun v4 c5 =>
asO_li_u8 v4 fun z6 =>
popA c5 fun v7 c8 =>
asB v7 fun z9 =>
popN c8 <|
popN b3 <|
some ((), (⟨z6, z9⟩ : S51))
theorem print_writer_expr_p0_dec_enc (v : AV UU) (b : List (List (AV UU))) (r : (Unit) × S51) (_ : b.length = 1) (h : print_writer_expr_p0_dec v b = some r) : v = print_writer_expr_p0_enc r ∧ b = print_writer_expr_p0_bx r := by
  unfold print_writer_expr_p0_dec at h
  replace h := asT_inv h; obtain ⟨q1, rfl, h⟩ := h
  replace h := popN_inv h; obtain ⟨rfl, h⟩ := h
  replace h := popA_inv h; obtain ⟨c2, b3, rfl, h⟩ := h
  replace h := popA_inv h; obtain ⟨v4, c5, rfl, h⟩ := h
  replace h := asO_li_u8_inv h; obtain ⟨z6, rfl, h⟩ := h
  replace h := popA_inv h; obtain ⟨v7, c8, rfl, h⟩ := h
  replace h := asB_inv h; obtain ⟨z9, rfl, h⟩ := h
  replace h := popN_inv h; obtain ⟨rfl, h⟩ := h
  replace h := popN_inv h; obtain ⟨rfl, h⟩ := h
  cases h
  exact ⟨rfl, rfl⟩
theorem print_writer_expr_p0_eq (k : Nat) (e1 : S25) (bx0 : S51) : bodyK UX (print_writer_expr_p0_cfg k) (print_writer_expr_p0_G k) Tryd.f19 [.ptr 1000 0, .pv (.typ (.s25 e1))] [[.own (.li_u8 bx0.f0), .pv (.bool bx0.f1)]] print_writer_expr_p0_dec = print_writer_expr_p0 k e1 bx0 := by kernel_rfl
theorem print_writer_expr_p0_con (k : Nat) (e1 : S25) (bx0 : S51) (r : (Unit) × S51) (h : print_writer_expr_p0 k e1 bx0 = some r) : Con (X := UX) Tryd.prog 19 [.ptr 1000 0, .pv (.typ (.s25 e1))] [[.own (.li_u8 bx0.f0), .pv (.bool bx0.f1)]] (print_writer_expr_p0_enc r) (print_writer_expr_p0_bx r) :=
  con_of_bodyB (args := [.ptr 1000 0, .pv (.typ (.s25 e1))]) (bx := [[.own (.li_u8 bx0.f0), .pv (.bool bx0.f1)]]) xok tok Tryd.func19 print_writer_expr_p0_body (print_writer_expr_p0_gok k) rfl (print_writer_expr_p0_cok k) (of_decide_eq_true (by kernel_rfl)) (.inr (of_decide_eq_true (by kernel_rfl))) (fun v b r hl => print_writer_expr_p0_dec_enc v b r hl) ((print_writer_expr_p0_eq k e1 bx0).trans h)
noncomputable def print_writer_expr_p0_an {ρ : Type} (k : Nat) : An UX ρ := fun args bx K =>
popA args fun v1 a2 =>
asP 1000 0 v1 <|
popA a2 fun v3 a4 =>
as_s25 v3 fun e1 =>
popN a4 <|
popA bx fun c5 b6 =>
popA c5 fun v7 c8 =>
asO_li_u8 v7 fun z9 =>
popA c8 fun v10 c11 =>
asB v10 fun z12 =>
popN c11 <|
popN b6 <|
(print_writer_expr_p0 k e1 (⟨z9, z12⟩ : S51)).bind fun r => K (print_writer_expr_p0_enc r) (print_writer_expr_p0_bx r)
theorem print_writer_expr_p0_ok {ρ : Type} (k : Nat) : AnsOK Tryd.prog 19 (print_writer_expr_p0_an (ρ := ρ) k) := by
  intro args bx K r h
  unfold print_writer_expr_p0_an at h
  replace h := popA_inv h; obtain ⟨v1, a2, rfl, h⟩ := h
  replace h := asP_inv h; obtain ⟨rfl, h⟩ := h
  replace h := popA_inv h; obtain ⟨v3, a4, rfl, h⟩ := h
  replace h := as_s25_inv h; obtain ⟨e1, rfl, h⟩ := h
  replace h := popN_inv h; obtain ⟨rfl, h⟩ := h
  replace h := popA_inv h; obtain ⟨c5, b6, rfl, h⟩ := h
  replace h := popA_inv h; obtain ⟨v7, c8, rfl, h⟩ := h
  replace h := asO_li_u8_inv h; obtain ⟨z9, rfl, h⟩ := h
  replace h := popA_inv h; obtain ⟨v10, c11, rfl, h⟩ := h
  replace h := asB_inv h; obtain ⟨z12, rfl, h⟩ := h
  replace h := popN_inv h; obtain ⟨rfl, h⟩ := h
  replace h := popN_inv h; obtain ⟨rfl, h⟩ := h
  replace h := bind_inv h
  obtain ⟨x, hx, h⟩ := h
  exact ⟨there_of Tryd.func19 (by kernel_rfl) print_writer_expr_p0_body, _, _, h, print_writer_expr_p0_con k e1 (⟨z9, z12⟩ : S51) x hx⟩

/-! cadastre/print.Expr -/
noncomputable def print_Expr_code : Code := match Tryd.f7.body with | some c => c | none => .skip
theorem print_Expr_body : Tryd.f7.body = some print_Expr_code := by kernel_rfl
noncomputable def print_Expr_G {ρ : Type} (k : Nat) : Ans UX ρ := gk 18 (print_Good_an k) (gk 19 (print_writer_expr_p0_an k) (gnil))
theorem print_Expr_gok {ρ : Type} (k : Nat) : GOK Tryd.prog (print_Expr_G (ρ := ρ) k) := gok_cons (print_Good_ok k) (gok_cons (print_writer_expr_p0_ok k) (gok_nil))
noncomputable def print_Expr_cfg {ρ : Type} (k : Nat) : Cfg UX ρ where
  live i := (assoc [(0, [0]), (1, [1]), (2, []), (3, [1]), (4, [1, 4]), (5, [4])] i).getD []
  boxes i := (assoc [(0, []), (1, [1]), (2, []), (3, [1]), (4, [1, 9]), (5, [9])] i).getD []
  tk i := (assoc [] i).getD []
  n := 18
  labelR l := (assoc [] l).getD 0
  loops := assoc []
  labels := assoc []
  joins := assoc []
  xl i e := match e with
    | .nxt => assoc [] i
    | .ret => assoc [] i
    | .exit j => (assoc [] i).bind fun l => assoc l j
    | .goto j => (assoc [] i).bind fun l => assoc l j
noncomputable def print_Expr_L : List Code := selI [] (loopsOf print_Expr_code)
noncomputable def print_Expr_J : List Code := selI [] (joinsOf print_Expr_code)
noncomputable def print_Expr_S : List Code := scopesOf print_Expr_code
theorem print_Expr_cok {ρ : Type} (k : Nat) : COK (print_Expr_cfg (ρ := ρ) k) (print_Expr_G k) print_Expr_code :=
  cok_of (tl := []) (tj := []) (tb := []) rfl rfl rfl (nil_all (by kernel_rfl)) (nil_all (by kernel_rfl)) (fun p hp => by cases hp)
noncomputable def print_Expr_enc (r : ByteArray × Int) : AV UU := .pv (.tup [.str r.1, .int .i64 r.2])
noncomputable def print_Expr_dec (v : AV UU) (_ : List (List (AV UU))) : Option (ByteArray × Int) :=
asT v fun q1 =>
popA q1 fun p2 q3 =>
asS (.pv p2) fun r0 =>
popA q3 fun p4 q5 =>
asI .i64 (.pv p4) fun r1 =>
popN q5 <|
some (r0, r1)
theorem print_Expr_dec_enc (v : AV UU) (b : List (List (AV UU))) (r : ByteArray × Int) (h : print_Expr_dec v b = some r) : v = print_Expr_enc r := by
  unfold print_Expr_dec at h
  replace h := asT_inv h; obtain ⟨q1, rfl, h⟩ := h
  replace h := popA_inv h; obtain ⟨p2, q3, rfl, h⟩ := h
  replace h := asS_inv h; obtain ⟨r0, e, h⟩ := h; cases e
  replace h := popA_inv h; obtain ⟨p4, q5, rfl, h⟩ := h
  replace h := asI_inv h; obtain ⟨r1, e, h⟩ := h; cases e
  replace h := popN_inv h; obtain ⟨rfl, h⟩ := h
  cases h
  rfl
theorem print_Expr_eq (k : Nat) (e0 : S25) : bodyK UX (print_Expr_cfg k) (print_Expr_G k) Tryd.f7 [.pv (.typ (.s25 e0))] [] print_Expr_dec = print_Expr k e0 := by kernel_rfl
theorem print_Expr_con (k : Nat) (e0 : S25) (r : ByteArray × Int) (h : print_Expr k e0 = some r) : Con (X := UX) Tryd.prog 7 [.pv (.typ (.s25 e0))] [] (print_Expr_enc r) [] :=
  con_of_body xok tok Tryd.func7 print_Expr_body (print_Expr_gok k) rfl (print_Expr_cok k) (of_decide_eq_true (by kernel_rfl)) print_Expr_dec_enc ((print_Expr_eq k e0).trans h)
noncomputable def print_Expr_an {ρ : Type} (k : Nat) : An UX ρ := fun args bx K =>
popA args fun v1 a2 =>
as_s25 v1 fun e0 =>
popN a2 <|
popN bx <|
(print_Expr k e0).bind fun r => K (print_Expr_enc r) []
theorem print_Expr_ok {ρ : Type} (k : Nat) : AnsOK Tryd.prog 7 (print_Expr_an (ρ := ρ) k) := by
  intro args bx K r h
  unfold print_Expr_an at h
  replace h := popA_inv h; obtain ⟨v1, a2, rfl, h⟩ := h
  replace h := as_s25_inv h; obtain ⟨e0, rfl, h⟩ := h
  replace h := popN_inv h; obtain ⟨rfl, h⟩ := h
  replace h := popN_inv h; obtain ⟨rfl, h⟩ := h
  replace h := bind_inv h
  obtain ⟨x, hx, h⟩ := h
  exact ⟨there_of Tryd.func7 (by kernel_rfl) print_Expr_body, _, _, h, print_Expr_con k e0 x hx⟩

/-! cadastre/cadastrelaw21.num -/
noncomputable def cadastrelaw21_num_code : Code := match Tryd.f8.body with | some c => c | none => .skip
theorem cadastrelaw21_num_body : Tryd.f8.body = some cadastrelaw21_num_code := by kernel_rfl
noncomputable def cadastrelaw21_num_G {ρ : Type} (k : Nat) : Ans UX ρ := gnil
theorem cadastrelaw21_num_gok {ρ : Type} (k : Nat) : GOK Tryd.prog (cadastrelaw21_num_G (ρ := ρ) k) := gok_nil
noncomputable def cadastrelaw21_num_cfg {ρ : Type} (k : Nat) : Cfg UX ρ where
  live i := (assoc [(0, [0]), (1, [0])] i).getD []
  boxes i := (assoc [(0, []), (1, [])] i).getD []
  tk i := (assoc [] i).getD []
  n := 4
  labelR l := (assoc [] l).getD 0
  loops := assoc []
  labels := assoc []
  joins := assoc []
  xl i e := match e with
    | .nxt => assoc [] i
    | .ret => assoc [] i
    | .exit j => (assoc [] i).bind fun l => assoc l j
    | .goto j => (assoc [] i).bind fun l => assoc l j
noncomputable def cadastrelaw21_num_L : List Code := selI [] (loopsOf cadastrelaw21_num_code)
noncomputable def cadastrelaw21_num_J : List Code := selI [] (joinsOf cadastrelaw21_num_code)
noncomputable def cadastrelaw21_num_S : List Code := scopesOf cadastrelaw21_num_code
theorem cadastrelaw21_num_cok {ρ : Type} (k : Nat) : COK (cadastrelaw21_num_cfg (ρ := ρ) k) (cadastrelaw21_num_G k) cadastrelaw21_num_code :=
  cok_of (tl := []) (tj := []) (tb := []) rfl rfl rfl (nil_all (by kernel_rfl)) (nil_all (by kernel_rfl)) (fun p hp => by cases hp)
noncomputable def cadastrelaw21_num_enc (r : Int) : AV UU := .pv (.int .i64 r)
noncomputable def cadastrelaw21_num_dec (v : AV UU) (_ : List (List (AV UU))) : Option Int :=
asI .i64 v fun r0 =>
some r0
theorem cadastrelaw21_num_dec_enc (v : AV UU) (b : List (List (AV UU))) (r : Int) (h : cadastrelaw21_num_dec v b = some r) : v = cadastrelaw21_num_enc r := by
  unfold cadastrelaw21_num_dec at h
  replace h := asI_inv h; obtain ⟨r0, rfl, h⟩ := h
  cases h
  rfl
theorem cadastrelaw21_num_eq (k : Nat) (e0 : Int) : bodyK UX (cadastrelaw21_num_cfg k) (cadastrelaw21_num_G k) Tryd.f8 [.pv (.int .i64 e0)] [] cadastrelaw21_num_dec = cadastrelaw21_num k e0 := by kernel_rfl
theorem cadastrelaw21_num_con (k : Nat) (e0 : Int) (r : Int) (h : cadastrelaw21_num k e0 = some r) : Con (X := UX) Tryd.prog 8 [.pv (.int .i64 e0)] [] (cadastrelaw21_num_enc r) [] :=
  con_of_body xok tok Tryd.func8 cadastrelaw21_num_body (cadastrelaw21_num_gok k) rfl (cadastrelaw21_num_cok k) (of_decide_eq_true (by kernel_rfl)) cadastrelaw21_num_dec_enc ((cadastrelaw21_num_eq k e0).trans h)
noncomputable def cadastrelaw21_num_an {ρ : Type} (k : Nat) : An UX ρ := fun args bx K =>
popA args fun v1 a2 =>
asI .i64 v1 fun e0 =>
popN a2 <|
popN bx <|
(cadastrelaw21_num k e0).bind fun r => K (cadastrelaw21_num_enc r) []
theorem cadastrelaw21_num_ok {ρ : Type} (k : Nat) : AnsOK Tryd.prog 8 (cadastrelaw21_num_an (ρ := ρ) k) := by
  intro args bx K r h
  unfold cadastrelaw21_num_an at h
  replace h := popA_inv h; obtain ⟨v1, a2, rfl, h⟩ := h
  replace h := asI_inv h; obtain ⟨e0, rfl, h⟩ := h
  replace h := popN_inv h; obtain ⟨rfl, h⟩ := h
  replace h := popN_inv h; obtain ⟨rfl, h⟩ := h
  replace h := bind_inv h
  obtain ⟨x, hx, h⟩ := h
  exact ⟨there_of Tryd.func8 (by kernel_rfl) cadastrelaw21_num_body, _, _, h, cadastrelaw21_num_con k e0 x hx⟩
end Go.Proofs.YtnoeedkbadoogaaDoor.P
