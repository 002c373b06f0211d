/-
  What the program's functions answer: the printed functions' answers.
-/
import Derived.Test.YtekjibpkkgldgaaBU
import Derived.Test.YtekjibpkkgldgaaAxGrow
import Derived.Test.YtekjibpkkgldgaaGrow
namespace Go.Proofs.Ytekjibpkkgldgaa.B
open Go Go.AX
/-! cadastre/cadastrelaw11.heavy -/
noncomputable def cadastrelaw11_heavy_code : Code := match Try.f16.body with | some c => c | none => .skip
theorem cadastrelaw11_heavy_body : Try.f16.body = some cadastrelaw11_heavy_code := by kernel_rfl
noncomputable def cadastrelaw11_heavy_G {ρ : Type} (k : Nat) : Ans UX ρ := gnil
theorem cadastrelaw11_heavy_gok {ρ : Type} (k : Nat) : GOK Try.prog (cadastrelaw11_heavy_G (ρ := ρ) k) := gok_nil
noncomputable def cadastrelaw11_heavy_j5_s {ρ : Type} (k : Nat) : Run UX ρ := fun s K =>
popS 1 s.env fun v1 e2 =>
asP 1 0 v1 <|
popS 3 e2 fun v3 e4 =>
asI .i64 v3 fun n3 =>
popS 4 e4 fun v5 e6 =>
asI .i64 v5 fun i4 =>
popN e6 <|
popB 1 s.hp fun c7 e8 =>
popA c7 fun v9 c10 =>
asI .i64 v9 fun z11 =>
popA c10 fun v12 c13 =>
asI .i64 v12 fun z14 =>
popA c13 fun v15 c16 =>
as_lli_u8 v15 fun z17 =>
popA c16 fun v18 c19 =>
as_li_u8 v18 fun z20 =>
popN c19 <|
popN e8 <|
cadastrelaw11_heavy_j5 k (fun n3 i4 p1 => K .nxt ⟨[(1, .ptr 1 0), (3, .pv (.int .i64 n3)), (4, .pv (.int .i64 i4))], [(1, [.pv (.int .i64 p1.f0), .pv (.int .i64 p1.f1), .pv (.typ (.lli_u8 p1.f2)), .pv (.typ (.li_u8 p1.f3))])]⟩) n3 i4 (⟨z11, z14, z17, z20⟩ : S26)
noncomputable def cadastrelaw11_heavy_l3_s {ρ : Type} (k : Nat) : Run UX ρ := fun s K =>
popS 1 s.env fun v1 e2 =>
asP 1 0 v1 <|
popS 3 e2 fun v3 e4 =>
asI .i64 v3 fun n3 =>
popS 4 e4 fun v5 e6 =>
asI .i64 v5 fun i4 =>
popN e6 <|
popB 1 s.hp fun c7 e8 =>
popA c7 fun v9 c10 =>
asI .i64 v9 fun z11 =>
popA c10 fun v12 c13 =>
asI .i64 v12 fun z14 =>
popA c13 fun v15 c16 =>
as_lli_u8 v15 fun z17 =>
popA c16 fun v18 c19 =>
as_li_u8 v18 fun z20 =>
popN c19 <|
popN e8 <|
cadastrelaw11_heavy_l3 k (fun n3 p1 => K (.exit 0) ⟨[(1, .ptr 1 0), (3, .pv (.int .i64 n3))], [(1, [.pv (.int .i64 p1.f0), .pv (.int .i64 p1.f1), .pv (.typ (.lli_u8 p1.f2)), .pv (.typ (.li_u8 p1.f3))])]⟩) k n3 i4 (⟨z11, z14, z17, z20⟩ : S26)
noncomputable def cadastrelaw11_heavy_cfg {ρ : Type} (k : Nat) : Cfg UX ρ where
  live i := (assoc [(0, [0]), (1, [1]), (2, [1, 3]), (3, [1, 3, 4]), (4, [1, 3, 4]), (5, [1, 3, 4]), (6, [1, 3])] i).getD []
  boxes i := (assoc [(0, []), (1, [1]), (2, [1]), (3, [1]), (4, [1]), (5, [1]), (6, [1])] i).getD []
  tk i := (assoc [] i).getD []
  n := 35
  labelR l := (assoc [] l).getD 0
  loops := assoc [(3, cadastrelaw11_heavy_l3_s k)]
  labels := assoc []
  joins := assoc [(5, cadastrelaw11_heavy_j5_s k)]
  xl i e := match e with
    | .nxt => assoc [(5, ([1, 3, 4], [1]))] i
    | .ret => assoc [] i
    | .exit j => (assoc [(3, [(0, ([1, 3], [1]))])] i).bind fun l => assoc l j
    | .goto j => (assoc [] i).bind fun l => assoc l j
noncomputable def cadastrelaw11_heavy_L : List Code := selI [3] (loopsOf cadastrelaw11_heavy_code)
noncomputable def cadastrelaw11_heavy_J : List Code := selI [5] (joinsOf cadastrelaw11_heavy_code)
noncomputable def cadastrelaw11_heavy_S : List Code := scopesOf cadastrelaw11_heavy_code
theorem cadastrelaw11_heavy_l3_eq0 {ρ : Type} (k : Nat) (K : Ex → St UU → Option ρ) : ∀ (n : Nat) (v : Int × Int × S26), iterK UX (fun s => s.at (cadastrelaw11_heavy_cfg (ρ := ρ) k).live (cadastrelaw11_heavy_cfg (ρ := ρ) k).boxes (some 3)) (exec UX (cadastrelaw11_heavy_cfg k) (cadastrelaw11_heavy_G k) (cadastrelaw11_heavy_L.getD 0 .skip)) n ⟨[(1, .ptr 1 0), (3, .pv (.int .i64 v.1)), (4, .pv (.int .i64 v.2.1))], [(1, [.pv (.int .i64 v.2.2.f0), .pv (.int .i64 v.2.2.f1), .pv (.typ (.lli_u8 v.2.2.f2)), .pv (.typ (.li_u8 v.2.2.f3))])]⟩ (nrmK UX (cadastrelaw11_heavy_cfg k) 3 K) = cadastrelaw11_heavy_l3 k (fun n3 p1 => K (.exit 0) ⟨[(1, .ptr 1 0), (3, .pv (.int .i64 n3))], [(1, [.pv (.int .i64 p1.f0), .pv (.int .i64 p1.f1), .pv (.typ (.lli_u8 p1.f2)), .pv (.typ (.li_u8 p1.f3))])]⟩) n v.1 v.2.1 v.2.2 :=
  iter_rec (X := UX) (fun v => ⟨[(1, .ptr 1 0), (3, .pv (.int .i64 v.1)), (4, .pv (.int .i64 v.2.1))], [(1, [.pv (.int .i64 v.2.2.f0), .pv (.int .i64 v.2.2.f1), .pv (.typ (.lli_u8 v.2.2.f2)), .pv (.typ (.li_u8 v.2.2.f3))])]⟩) (fun rec v => cadastrelaw11_heavy_l3_b k (fun n3 p1 => K (.exit 0) ⟨[(1, .ptr 1 0), (3, .pv (.int .i64 n3))], [(1, [.pv (.int .i64 p1.f0), .pv (.int .i64 p1.f1), .pv (.typ (.lli_u8 p1.f2)), .pv (.typ (.li_u8 p1.f3))])]⟩) (fun n3 i4 p1 => rec (n3, i4, p1)) v.1 v.2.1 v.2.2) (fun n v => cadastrelaw11_heavy_l3 k (fun n3 p1 => K (.exit 0) ⟨[(1, .ptr 1 0), (3, .pv (.int .i64 n3))], [(1, [.pv (.int .i64 p1.f0), .pv (.int .i64 p1.f1), .pv (.typ (.lli_u8 p1.f2)), .pv (.typ (.li_u8 p1.f3))])]⟩) n v.1 v.2.1 v.2.2) (fun n v => by kernel_rfl) (fun _ => rfl) (fun _ _ => rfl)
theorem cadastrelaw11_heavy_l3_ok0 {ρ : Type} (k : Nat) : IterOK UX (cadastrelaw11_heavy_cfg (ρ := ρ) k) (cadastrelaw11_heavy_G k) (cadastrelaw11_heavy_L.getD 0 .skip) 3 (cadastrelaw11_heavy_l3_s k) := by
  intro s K r h
  obtain ⟨env, hp⟩ := s
  unfold cadastrelaw11_heavy_l3_s at h
  replace h := popS_inv h; obtain ⟨v1, e2, rfl, h⟩ := h
  replace h := asP_inv h; obtain ⟨rfl, h⟩ := h
  replace h := popS_inv h; obtain ⟨v3, e4, rfl, h⟩ := h
  replace h := asI_inv h; obtain ⟨n3, rfl, h⟩ := h
  replace h := popS_inv h; obtain ⟨v5, e6, rfl, h⟩ := h
  replace h := asI_inv h; obtain ⟨i4, rfl, h⟩ := h
  replace h := popN_inv h; obtain ⟨rfl, h⟩ := h
  replace h := popB_inv h; obtain ⟨c7, e8, rfl, h⟩ := h
  replace h := popA_inv h; obtain ⟨v9, c10, rfl, h⟩ := h
  replace h := asI_inv h; obtain ⟨z11, rfl, h⟩ := h
  replace h := popA_inv h; obtain ⟨v12, c13, rfl, h⟩ := h
  replace h := asI_inv h; obtain ⟨z14, rfl, h⟩ := h
  replace h := popA_inv h; obtain ⟨v15, c16, rfl, h⟩ := h
  replace h := as_lli_u8_inv h; obtain ⟨z17, rfl, h⟩ := h
  replace h := popA_inv h; obtain ⟨v18, c19, rfl, h⟩ := h
  replace h := as_li_u8_inv h; obtain ⟨z20, rfl, h⟩ := h
  replace h := popN_inv h; obtain ⟨rfl, h⟩ := h
  replace h := popN_inv h; obtain ⟨rfl, h⟩ := h
  exact ⟨k, (cadastrelaw11_heavy_l3_eq0 k K k (n3, i4, (⟨z11, z14, z17, z20⟩ : S26))).trans h⟩
theorem cadastrelaw11_heavy_j5_eq0 {ρ : Type} (k : Nat) (K : Ex → St UU → Option ρ) (n3 : Int) (i4 : Int) (p1 : S26) : exec UX (cadastrelaw11_heavy_cfg k) (cadastrelaw11_heavy_G k) (cadastrelaw11_heavy_J.getD 0 .skip) ⟨[(1, .ptr 1 0), (3, .pv (.int .i64 n3)), (4, .pv (.int .i64 i4))], [(1, [.pv (.int .i64 p1.f0), .pv (.int .i64 p1.f1), .pv (.typ (.lli_u8 p1.f2)), .pv (.typ (.li_u8 p1.f3))])]⟩ (nrmK UX (cadastrelaw11_heavy_cfg k) 5 K) = cadastrelaw11_heavy_j5 k (fun n3 i4 p1 => K .nxt ⟨[(1, .ptr 1 0), (3, .pv (.int .i64 n3)), (4, .pv (.int .i64 i4))], [(1, [.pv (.int .i64 p1.f0), .pv (.int .i64 p1.f1), .pv (.typ (.lli_u8 p1.f2)), .pv (.typ (.li_u8 p1.f3))])]⟩) n3 i4 p1 := by kernel_rfl
theorem cadastrelaw11_heavy_j5_ok0 {ρ : Type} (k : Nat) : JoinOK UX (cadastrelaw11_heavy_cfg (ρ := ρ) k) (cadastrelaw11_heavy_G k) (cadastrelaw11_heavy_J.getD 0 .skip) 5 (cadastrelaw11_heavy_j5_s k) := by
  intro s K r h
  obtain ⟨env, hp⟩ := s
  unfold cadastrelaw11_heavy_j5_s at h
  replace h := popS_inv h; obtain ⟨v1, e2, rfl, h⟩ := h
  replace h := asP_inv h; obtain ⟨rfl, h⟩ := h
  replace h := popS_inv h; obtain ⟨v3, e4, rfl, h⟩ := h
  replace h := asI_inv h; obtain ⟨n3, rfl, h⟩ := h
  replace h := popS_inv h; obtain ⟨v5, e6, rfl, h⟩ := h
  replace h := asI_inv h; obtain ⟨i4, rfl, h⟩ := h
  replace h := popN_inv h; obtain ⟨rfl, h⟩ := h
  replace h := popB_inv h; obtain ⟨c7, e8, rfl, h⟩ := h
  replace h := popA_inv h; obtain ⟨v9, c10, rfl, h⟩ := h
  replace h := asI_inv h; obtain ⟨z11, rfl, h⟩ := h
  replace h := popA_inv h; obtain ⟨v12, c13, rfl, h⟩ := h
  replace h := asI_inv h; obtain ⟨z14, rfl, h⟩ := h
  replace h := popA_inv h; obtain ⟨v15, c16, rfl, h⟩ := h
  replace h := as_lli_u8_inv h; obtain ⟨z17, rfl, h⟩ := h
  replace h := popA_inv h; obtain ⟨v18, c19, rfl, h⟩ := h
  replace h := as_li_u8_inv h; obtain ⟨z20, rfl, h⟩ := h
  replace h := popN_inv h; obtain ⟨rfl, h⟩ := h
  replace h := popN_inv h; obtain ⟨rfl, h⟩ := h
  exact (cadastrelaw11_heavy_j5_eq0 k K n3 i4 (⟨z11, z14, z17, z20⟩ : S26)).trans h
theorem cadastrelaw11_heavy_cok {ρ : Type} (k : Nat) : COK (cadastrelaw11_heavy_cfg (ρ := ρ) k) (cadastrelaw11_heavy_G k) cadastrelaw11_heavy_code :=
  cok_of (tl := [(3, cadastrelaw11_heavy_l3_s k)]) (tj := [(5, cadastrelaw11_heavy_j5_s k)]) (tb := []) rfl rfl rfl (all_nth 1 (by kernel_rfl) ⟨iter_case (by kernel_rfl) rfl (cadastrelaw11_heavy_l3_ok0 k), trivial⟩) (all_nth 1 (by kernel_rfl) ⟨join_case (by kernel_rfl) rfl (cadastrelaw11_heavy_j5_ok0 k), trivial⟩) (fun p hp => by cases hp)
noncomputable def cadastrelaw11_heavy_enc (r : Bool) : AV UU := .pv (.bool r)
noncomputable def cadastrelaw11_heavy_dec (v : AV UU) (_ : List (List (AV UU))) : Option Bool :=
asB v fun r0 =>
some r0
theorem cadastrelaw11_heavy_dec_enc (v : AV UU) (b : List (List (AV UU))) (r : Bool) (h : cadastrelaw11_heavy_dec v b = some r) : v = cadastrelaw11_heavy_enc r := by
  unfold cadastrelaw11_heavy_dec at h
  replace h := asB_inv h; obtain ⟨r0, rfl, h⟩ := h
  cases h
  rfl
theorem cadastrelaw11_heavy_eq (k : Nat) (p0 : S26) : bodyK UX (cadastrelaw11_heavy_cfg k) (cadastrelaw11_heavy_G k) Try.f16 [.pv (.typ (.s26 p0))] [] cadastrelaw11_heavy_dec = cadastrelaw11_heavy k p0 := by kernel_rfl
theorem cadastrelaw11_heavy_con (k : Nat) (p0 : S26) (r : Bool) (h : cadastrelaw11_heavy k p0 = some r) : Con (X := UX) Try.prog 16 [.pv (.typ (.s26 p0))] [] (cadastrelaw11_heavy_enc r) [] :=
  con_of_body xok tok Try.func16 cadastrelaw11_heavy_body (cadastrelaw11_heavy_gok k) rfl (cadastrelaw11_heavy_cok k) (of_decide_eq_true (by kernel_rfl)) cadastrelaw11_heavy_dec_enc ((cadastrelaw11_heavy_eq k p0).trans h)
noncomputable def cadastrelaw11_heavy_an {ρ : Type} (k : Nat) : An UX ρ := fun args bx K =>
popA args fun v1 a2 =>
as_s26 v1 fun p0 =>
popN a2 <|
popN bx <|
(cadastrelaw11_heavy k p0).bind fun r => K (cadastrelaw11_heavy_enc r) []
theorem cadastrelaw11_heavy_ok {ρ : Type} (k : Nat) : AnsOK Try.prog 16 (cadastrelaw11_heavy_an (ρ := ρ) k) := by
  intro args bx K r h
  unfold cadastrelaw11_heavy_an at h
  replace h := popA_inv h; obtain ⟨v1, a2, rfl, h⟩ := h
  replace h := as_s26_inv h; obtain ⟨p0, rfl, h⟩ := h
  replace h := popN_inv h; obtain ⟨rfl, h⟩ := h
  replace h := popN_inv h; obtain ⟨rfl, h⟩ := h
  replace h := bind_inv h
  obtain ⟨x, hx, h⟩ := h
  exact ⟨there_of Try.func16 (by kernel_rfl) cadastrelaw11_heavy_body, _, _, h, cadastrelaw11_heavy_con k p0 x hx⟩

/-! cadastre/cadastrelaw0.Within -/
noncomputable def cadastrelaw0_Within_code : Code := match Try.f36.body with | some c => c | none => .skip
theorem cadastrelaw0_Within_body : Try.f36.body = some cadastrelaw0_Within_code := by kernel_rfl
noncomputable def cadastrelaw0_Within_G {ρ : Type} (k : Nat) : Ans UX ρ := gnil
theorem cadastrelaw0_Within_gok {ρ : Type} (k : Nat) : GOK Try.prog (cadastrelaw0_Within_G (ρ := ρ) k) := gok_nil
noncomputable def cadastrelaw0_Within_cfg {ρ : Type} (k : Nat) : Cfg UX ρ where
  live i := (assoc [(0, [0, 1]), (1, [0, 1])] i).getD []
  boxes i := (assoc [(0, []), (1, [])] i).getD []
  tk i := (assoc [] i).getD []
  n := 11
  labelR l := (assoc [] l).getD 0
  loops := assoc []
  labels := assoc []
  joins := assoc []
  xl i e := match e with
    | .nxt => assoc [] i
    | .ret => assoc [] i
    | .exit j => (assoc [] i).bind fun l => assoc l j
    | .goto j => (assoc [] i).bind fun l => assoc l j
noncomputable def cadastrelaw0_Within_L : List Code := selI [] (loopsOf cadastrelaw0_Within_code)
noncomputable def cadastrelaw0_Within_J : List Code := selI [] (joinsOf cadastrelaw0_Within_code)
noncomputable def cadastrelaw0_Within_S : List Code := scopesOf cadastrelaw0_Within_code
theorem cadastrelaw0_Within_cok {ρ : Type} (k : Nat) : COK (cadastrelaw0_Within_cfg (ρ := ρ) k) (cadastrelaw0_Within_G k) cadastrelaw0_Within_code :=
  cok_of (tl := []) (tj := []) (tb := []) rfl rfl rfl (nil_all (by kernel_rfl)) (nil_all (by kernel_rfl)) (fun p hp => by cases hp)
noncomputable def cadastrelaw0_Within_enc (r : Int) : AV UU := .pv (.int .i64 r)
noncomputable def cadastrelaw0_Within_dec (v : AV UU) (_ : List (List (AV UU))) : Option Int :=
asI .i64 v fun r0 =>
some r0
theorem cadastrelaw0_Within_dec_enc (v : AV UU) (b : List (List (AV UU))) (r : Int) (h : cadastrelaw0_Within_dec v b = some r) : v = cadastrelaw0_Within_enc r := by
  unfold cadastrelaw0_Within_dec at h
  replace h := asI_inv h; obtain ⟨r0, rfl, h⟩ := h
  cases h
  rfl
theorem cadastrelaw0_Within_eq (k : Nat) (i0 : Int) (n1 : Int) : bodyK UX (cadastrelaw0_Within_cfg k) (cadastrelaw0_Within_G k) Try.f36 [.pv (.int .i64 i0), .pv (.int .i64 n1)] [] cadastrelaw0_Within_dec = cadastrelaw0_Within k i0 n1 := by kernel_rfl
theorem cadastrelaw0_Within_con (k : Nat) (i0 : Int) (n1 : Int) (r : Int) (h : cadastrelaw0_Within k i0 n1 = some r) : Con (X := UX) Try.prog 36 [.pv (.int .i64 i0), .pv (.int .i64 n1)] [] (cadastrelaw0_Within_enc r) [] :=
  con_of_body xok tok Try.func36 cadastrelaw0_Within_body (cadastrelaw0_Within_gok k) rfl (cadastrelaw0_Within_cok k) (of_decide_eq_true (by kernel_rfl)) cadastrelaw0_Within_dec_enc ((cadastrelaw0_Within_eq k i0 n1).trans h)
noncomputable def cadastrelaw0_Within_an {ρ : Type} (k : Nat) : An UX ρ := fun args bx K =>
popA args fun v1 a2 =>
asI .i64 v1 fun i0 =>
popA a2 fun v3 a4 =>
asI .i64 v3 fun n1 =>
popN a4 <|
popN bx <|
(cadastrelaw0_Within k i0 n1).bind fun r => K (cadastrelaw0_Within_enc r) []
theorem cadastrelaw0_Within_ok {ρ : Type} (k : Nat) : AnsOK Try.prog 36 (cadastrelaw0_Within_an (ρ := ρ) k) := by
  intro args bx K r h
  unfold cadastrelaw0_Within_an at h
  replace h := popA_inv h; obtain ⟨v1, a2, rfl, h⟩ := h
  replace h := asI_inv h; obtain ⟨i0, rfl, h⟩ := h
  replace h := popA_inv h; obtain ⟨v3, a4, rfl, h⟩ := h
  replace h := asI_inv h; obtain ⟨n1, rfl, h⟩ := h
  replace h := popN_inv h; obtain ⟨rfl, h⟩ := h
  replace h := popN_inv h; obtain ⟨rfl, h⟩ := h
  replace h := bind_inv h
  obtain ⟨x, hx, h⟩ := h
  exact ⟨there_of Try.func36 (by kernel_rfl) cadastrelaw0_Within_body, _, _, h, cadastrelaw0_Within_con k i0 n1 x hx⟩

/-! cadastre/varint.turned -/
noncomputable def varint_turned_o0_code : Code := match Try.f70.body with | some c => c | none => .skip
theorem varint_turned_o0_body : Try.f70.body = some varint_turned_o0_code := by kernel_rfl
noncomputable def varint_turned_o0_G {ρ : Type} (k : Nat) : Ans UX ρ := gnil
theorem varint_turned_o0_gok {ρ : Type} (k : Nat) : GOK Try.prog (varint_turned_o0_G (ρ := ρ) k) := gok_nil
noncomputable def varint_turned_o0_j2_s {ρ : Type} (k : Nat) : Run UX ρ := fun s K =>
popS 0 s.env fun v1 e2 =>
asO_li_u8 v1 fun b0 =>
popS 3 e2 fun v3 e4 =>
asI .i64 v3 fun i3 =>
popS 4 e4 fun v5 e6 =>
asI .i64 v5 fun k4 =>
popN e6 <|
popN s.hp <|
varint_turned_o0_j2 k (fun b0 i3 k4 => K (.goto 0) ⟨[(0, .own (.li_u8 b0)), (3, .pv (.int .i64 i3)), (4, .pv (.int .i64 k4))], []⟩) (fun t2 => K .ret ⟨[(2, .own (.li_u8 t2))], []⟩) b0 i3 k4
noncomputable def varint_turned_o0_g0_s {ρ : Type} (k : Nat) : Run UX ρ := fun s K =>
popS 0 s.env fun v1 e2 =>
asO_li_u8 v1 fun b0 =>
popS 3 e2 fun v3 e4 =>
asI .i64 v3 fun i3 =>
popS 4 e4 fun v5 e6 =>
asI .i64 v5 fun k4 =>
popN e6 <|
popN s.hp <|
varint_turned_o0_g0 k (fun t2 => K .ret ⟨[(2, .own (.li_u8 t2))], []⟩) k b0 i3 k4
noncomputable def varint_turned_o0_cfg {ρ : Type} (k : Nat) : Cfg UX ρ where
  live i := (assoc [(0, [0]), (1, [0]), (2, [0, 3, 4]), (3, [0, 3, 4]), (4, [0, 3, 4]), (5, [0, 3, 4]), (6, [0])] i).getD []
  boxes i := (assoc [(0, []), (1, []), (2, []), (3, []), (4, []), (5, []), (6, [])] i).getD []
  tk i := (assoc [(1000000, [2])] i).getD []
  n := 30
  labelR l := (assoc [(0, 2)] l).getD 0
  loops := assoc []
  labels := assoc [(0, varint_turned_o0_g0_s k)]
  joins := assoc [(2, varint_turned_o0_j2_s k)]
  xl i e := match e with
    | .nxt => assoc [] i
    | .ret => assoc [(2, ([2], [])), (2, ([2], []))] i
    | .exit j => (assoc [] i).bind fun l => assoc l j
    | .goto j => (assoc [(2, [(0, ([0, 3, 4], []))])] i).bind fun l => assoc l j
noncomputable def varint_turned_o0_L : List Code := selI [] (loopsOf varint_turned_o0_code)
noncomputable def varint_turned_o0_J : List Code := selI [2] (joinsOf varint_turned_o0_code)
noncomputable def varint_turned_o0_S : List Code := scopesOf varint_turned_o0_code
theorem varint_turned_o0_j2_eq0 {ρ : Type} (k : Nat) (K : Ex → St UU → Option ρ) (b0 : List Int) (i3 : Int) (k4 : Int) : exec UX (varint_turned_o0_cfg k) (varint_turned_o0_G k) (varint_turned_o0_J.getD 0 .skip) ⟨[(0, .own (.li_u8 b0)), (3, .pv (.int .i64 i3)), (4, .pv (.int .i64 k4))], []⟩ (nrmK UX (varint_turned_o0_cfg k) 2 K) = varint_turned_o0_j2 k (fun b0 i3 k4 => K (.goto 0) ⟨[(0, .own (.li_u8 b0)), (3, .pv (.int .i64 i3)), (4, .pv (.int .i64 k4))], []⟩) (fun t2 => K .ret ⟨[(2, .own (.li_u8 t2))], []⟩) b0 i3 k4 := by kernel_rfl
theorem varint_turned_o0_j2_ok0 {ρ : Type} (k : Nat) : JoinOK UX (varint_turned_o0_cfg (ρ := ρ) k) (varint_turned_o0_G k) (varint_turned_o0_J.getD 0 .skip) 2 (varint_turned_o0_j2_s k) := by
  intro s K r h
  obtain ⟨env, hp⟩ := s
  unfold varint_turned_o0_j2_s at h
  replace h := popS_inv h; obtain ⟨v1, e2, rfl, h⟩ := h
  replace h := asO_li_u8_inv h; obtain ⟨b0, rfl, h⟩ := h
  replace h := popS_inv h; obtain ⟨v3, e4, rfl, h⟩ := h
  replace h := asI_inv h; obtain ⟨i3, rfl, h⟩ := h
  replace h := popS_inv h; obtain ⟨v5, e6, rfl, h⟩ := h
  replace h := asI_inv h; obtain ⟨k4, rfl, h⟩ := h
  replace h := popN_inv h; obtain ⟨rfl, h⟩ := h
  replace h := popN_inv h; obtain ⟨rfl, h⟩ := h
  exact (varint_turned_o0_j2_eq0 k K b0 i3 k4).trans h
noncomputable def varint_turned_o0_g0_f0 {ρ : Type} (k : Nat) : Run UX ρ := (suff UX (varint_turned_o0_cfg k) (varint_turned_o0_G k) (varint_turned_o0_S.getD 0 .skip) 0).getD fun _ _ => none
theorem varint_turned_o0_g0_eq0 {ρ : Type} (k : Nat) (K : Ex → St UU → Option ρ) : ∀ (n : Nat) (v : (List Int) × Int × Int), scopeN UX (fun l s => s.at (varint_turned_o0_cfg (ρ := ρ) k).live (varint_turned_o0_cfg (ρ := ρ) k).boxes (some ((varint_turned_o0_cfg (ρ := ρ) k).labelR l))) (suff UX (varint_turned_o0_cfg k) (varint_turned_o0_G k) (varint_turned_o0_S.getD 0 .skip)) (fun l => ((varint_turned_o0_cfg (ρ := ρ) k).labels l).isSome) n (varint_turned_o0_g0_f0 k) ⟨[(0, .own (.li_u8 v.1)), (3, .pv (.int .i64 v.2.1)), (4, .pv (.int .i64 v.2.2))], []⟩ (nrmK UX (varint_turned_o0_cfg k) ((varint_turned_o0_cfg (ρ := ρ) k).labelR 0) K) = varint_turned_o0_g0 k (fun t2 => K .ret ⟨[(2, .own (.li_u8 t2))], []⟩) n v.1 v.2.1 v.2.2 :=
  scope_rec (X := UX) (fun _ => varint_turned_o0_g0_f0 k) (fun v => ⟨[(0, .own (.li_u8 v.1)), (3, .pv (.int .i64 v.2.1)), (4, .pv (.int .i64 v.2.2))], []⟩) (fun rec v => varint_turned_o0_g0_b k (fun t2 => K .ret ⟨[(2, .own (.li_u8 t2))], []⟩) (fun b0 i3 k4 => rec (b0, i3, k4)) v.1 v.2.1 v.2.2) (fun n v => varint_turned_o0_g0 k (fun t2 => K .ret ⟨[(2, .own (.li_u8 t2))], []⟩) n v.1 v.2.1 v.2.2) (fun n v => by kernel_rfl) (fun _ => rfl) (fun _ _ => rfl)
theorem varint_turned_o0_g0_ok0 {ρ : Type} (k : Nat) : LabOK UX (varint_turned_o0_cfg (ρ := ρ) k) (varint_turned_o0_G k) (varint_turned_o0_S.getD 0 .skip) 0 (varint_turned_o0_g0_s k) := by
  intro f hf s K r h
  have hf : varint_turned_o0_g0_f0 k = f := by unfold varint_turned_o0_g0_f0; rw [hf]; rfl
  subst hf
  obtain ⟨env, hp⟩ := s
  unfold varint_turned_o0_g0_s at h
  replace h := popS_inv h; obtain ⟨v1, e2, rfl, h⟩ := h
  replace h := asO_li_u8_inv h; obtain ⟨b0, rfl, h⟩ := h
  replace h := popS_inv h; obtain ⟨v3, e4, rfl, h⟩ := h
  replace h := asI_inv h; obtain ⟨i3, rfl, h⟩ := h
  replace h := popS_inv h; obtain ⟨v5, e6, rfl, h⟩ := h
  replace h := asI_inv h; obtain ⟨k4, rfl, h⟩ := h
  replace h := popN_inv h; obtain ⟨rfl, h⟩ := h
  replace h := popN_inv h; obtain ⟨rfl, h⟩ := h
  exact ⟨k, (varint_turned_o0_g0_eq0 k K k (b0, i3, k4)).trans h⟩
theorem varint_turned_o0_cok {ρ : Type} (k : Nat) : COK (varint_turned_o0_cfg (ρ := ρ) k) (varint_turned_o0_G k) varint_turned_o0_code :=
  cok_of (tl := []) (tj := [(2, varint_turned_o0_j2_s k)]) (tb := [(0, varint_turned_o0_g0_s k)]) rfl rfl rfl (nil_all (by kernel_rfl)) (all_nth 1 (by kernel_rfl) ⟨join_case (by kernel_rfl) rfl (varint_turned_o0_j2_ok0 k), trivial⟩) (fun p hp => by
    simp only [List.mem_cons, List.not_mem_nil, or_false] at hp
    subst hp
    · exact all_nth 1 (by kernel_rfl) ⟨varint_turned_o0_g0_ok0 k, trivial⟩)
noncomputable def varint_turned_o0_enc (r : (List Int)) : AV UU := .own (.li_u8 r)
noncomputable def varint_turned_o0_dec (v : AV UU) (_ : List (List (AV UU))) : Option (List Int) :=
asO_li_u8 v fun r =>
some r
theorem varint_turned_o0_dec_enc (v : AV UU) (b : List (List (AV UU))) (r : (List Int)) (h : varint_turned_o0_dec v b = some r) : v = varint_turned_o0_enc r := by
  unfold varint_turned_o0_dec at h
  replace h := asO_li_u8_inv h; obtain ⟨r, rfl, h⟩ := h
  cases h
  rfl
theorem varint_turned_o0_eq (k : Nat) (b0 : List Int) : bodyK UX (varint_turned_o0_cfg k) (varint_turned_o0_G k) Try.f70 [.own (.li_u8 b0)] [] varint_turned_o0_dec = varint_turned_o0 k b0 := by kernel_rfl
theorem varint_turned_o0_con (k : Nat) (b0 : List Int) (r : (List Int)) (h : varint_turned_o0 k b0 = some r) : Con (X := UX) Try.prog 70 [.own (.li_u8 b0)] [] (varint_turned_o0_enc r) [] :=
  con_of_body xok tok Try.func70 varint_turned_o0_body (varint_turned_o0_gok k) rfl (varint_turned_o0_cok k) (of_decide_eq_true (by kernel_rfl)) varint_turned_o0_dec_enc ((varint_turned_o0_eq k b0).trans h)
noncomputable def varint_turned_o0_an {ρ : Type} (k : Nat) : An UX ρ := fun args bx K =>
popA args fun v1 a2 =>
asO_li_u8 v1 fun b0 =>
popN a2 <|
popN bx <|
(varint_turned_o0 k b0).bind fun r => K (varint_turned_o0_enc r) []
theorem varint_turned_o0_ok {ρ : Type} (k : Nat) : AnsOK Try.prog 70 (varint_turned_o0_an (ρ := ρ) k) := by
  intro args bx K r h
  unfold varint_turned_o0_an at h
  replace h := popA_inv h; obtain ⟨v1, a2, rfl, h⟩ := h
  replace h := asO_li_u8_inv h; obtain ⟨b0, rfl, h⟩ := h
  replace h := popN_inv h; obtain ⟨rfl, h⟩ := h
  replace h := popN_inv h; obtain ⟨rfl, h⟩ := h
  replace h := bind_inv h
  obtain ⟨x, hx, h⟩ := h
  exact ⟨there_of Try.func70 (by kernel_rfl) varint_turned_o0_body, _, _, h, varint_turned_o0_con k b0 x hx⟩

/-! cadastre/varint.Put -/
noncomputable def varint_Put_code : Code := match Try.f50.body with | some c => c | none => .skip
theorem varint_Put_body : Try.f50.body = some varint_Put_code := by kernel_rfl
noncomputable def varint_Put_G {ρ : Type} (k : Nat) : Ans UX ρ := gk 70 (varint_turned_o0_an k) (gnil)
theorem varint_Put_gok {ρ : Type} (k : Nat) : GOK Try.prog (varint_Put_G (ρ := ρ) k) := gok_cons (varint_turned_o0_ok k) (gok_nil)
noncomputable def varint_Put_l6_s {ρ : Type} (k : Nat) : Run UX ρ := fun s K =>
popS 0 s.env fun v1 e2 =>
asI .u64 v1 fun n0 =>
popS 2 e2 fun v3 e4 =>
asO_li_u8 v3 fun b2 =>
popS 13 e4 fun v5 e6 =>
asI .i64 v5 fun t13 =>
popN e6 <|
popN s.hp <|
varint_Put_l6 k (fun b2 => K (.exit 0) ⟨[(2, .own (.li_u8 b2))], []⟩) k n0 b2 t13
noncomputable def varint_Put_j11_s {ρ : Type} (k : Nat) : Run UX ρ := fun s K =>
popS 0 s.env fun v1 e2 =>
asI .u64 v1 fun n0 =>
popS 2 e2 fun v3 e4 =>
asO_li_u8 v3 fun b2 =>
popS 3 e4 fun v5 e6 =>
asI .u8 v5 fun low3 =>
popN e6 <|
popN s.hp <|
varint_Put_j11 k (fun n0 b2 low3 => K (.goto 0) ⟨[(0, .pv (.int .u64 n0)), (2, .own (.li_u8 b2)), (3, .pv (.int .u8 low3))], []⟩) (fun b2 => K .ret ⟨[(2, .own (.li_u8 b2))], []⟩) n0 b2 low3
noncomputable def varint_Put_g0_s {ρ : Type} (k : Nat) : Run UX ρ := fun s K =>
popS 0 s.env fun v1 e2 =>
asI .u64 v1 fun n0 =>
popS 2 e2 fun v3 e4 =>
asO_li_u8 v3 fun b2 =>
popS 3 e4 fun v5 e6 =>
asI .u8 v5 fun low3 =>
popN e6 <|
popN s.hp <|
varint_Put_g0 k (fun b2 => K .ret ⟨[(2, .own (.li_u8 b2))], []⟩) k n0 b2 low3
noncomputable def varint_Put_cfg {ρ : Type} (k : Nat) : Cfg UX ρ where
  live i := (assoc [(0, [0]), (1, [0, 2]), (2, [0, 2, 3]), (3, [0, 2]), (4, [0, 2]), (5, [0, 2]), (6, [0, 2, 13]), (7, [0, 2, 13]), (8, [0, 2, 13]), (9, [0, 2, 13]), (10, [2]), (11, [0, 2, 3]), (12, [0, 2]), (13, [0, 2]), (14, [0, 2, 3]), (15, [2])] i).getD []
  boxes i := (assoc [(0, []), (1, []), (2, []), (3, []), (4, []), (5, []), (6, []), (7, []), (8, []), (9, []), (10, []), (11, []), (12, []), (13, []), (14, []), (15, [])] i).getD []
  tk i := (assoc [(70, [0]), (1000000, [2])] i).getD []
  n := 40
  labelR l := (assoc [(0, 11)] l).getD 0
  loops := assoc [(6, varint_Put_l6_s k)]
  labels := assoc [(0, varint_Put_g0_s k)]
  joins := assoc [(11, varint_Put_j11_s k)]
  xl i e := match e with
    | .nxt => assoc [] i
    | .ret => assoc [(11, ([2], [])), (11, ([2], []))] i
    | .exit j => (assoc [(6, [(0, ([2], []))])] i).bind fun l => assoc l j
    | .goto j => (assoc [(11, [(0, ([0, 2, 3], []))])] i).bind fun l => assoc l j
noncomputable def varint_Put_L : List Code := selI [6] (loopsOf varint_Put_code)
noncomputable def varint_Put_J : List Code := selI [11] (joinsOf varint_Put_code)
noncomputable def varint_Put_S : List Code := scopesOf varint_Put_code
theorem varint_Put_l6_eq0 {ρ : Type} (k : Nat) (K : Ex → St UU → Option ρ) : ∀ (n : Nat) (v : Int × (List Int) × Int), iterK UX (fun s => s.at (varint_Put_cfg (ρ := ρ) k).live (varint_Put_cfg (ρ := ρ) k).boxes (some 6)) (exec UX (varint_Put_cfg k) (varint_Put_G k) (varint_Put_L.getD 0 .skip)) n ⟨[(0, .pv (.int .u64 v.1)), (2, .own (.li_u8 v.2.1)), (13, .pv (.int .i64 v.2.2))], []⟩ (nrmK UX (varint_Put_cfg k) 6 K) = varint_Put_l6 k (fun b2 => K (.exit 0) ⟨[(2, .own (.li_u8 b2))], []⟩) n v.1 v.2.1 v.2.2 :=
  iter_rec (X := UX) (fun v => ⟨[(0, .pv (.int .u64 v.1)), (2, .own (.li_u8 v.2.1)), (13, .pv (.int .i64 v.2.2))], []⟩) (fun rec v => varint_Put_l6_b k (fun b2 => K (.exit 0) ⟨[(2, .own (.li_u8 b2))], []⟩) (fun n0 b2 t13 => rec (n0, b2, t13)) v.1 v.2.1 v.2.2) (fun n v => varint_Put_l6 k (fun b2 => K (.exit 0) ⟨[(2, .own (.li_u8 b2))], []⟩) n v.1 v.2.1 v.2.2) (fun n v => by kernel_rfl) (fun _ => rfl) (fun _ _ => rfl)
theorem varint_Put_l6_ok0 {ρ : Type} (k : Nat) : IterOK UX (varint_Put_cfg (ρ := ρ) k) (varint_Put_G k) (varint_Put_L.getD 0 .skip) 6 (varint_Put_l6_s k) := by
  intro s K r h
  obtain ⟨env, hp⟩ := s
  unfold varint_Put_l6_s at h
  replace h := popS_inv h; obtain ⟨v1, e2, rfl, h⟩ := h
  replace h := asI_inv h; obtain ⟨n0, rfl, h⟩ := h
  replace h := popS_inv h; obtain ⟨v3, e4, rfl, h⟩ := h
  replace h := asO_li_u8_inv h; obtain ⟨b2, rfl, h⟩ := h
  replace h := popS_inv h; obtain ⟨v5, e6, rfl, h⟩ := h
  replace h := asI_inv h; obtain ⟨t13, rfl, h⟩ := h
  replace h := popN_inv h; obtain ⟨rfl, h⟩ := h
  replace h := popN_inv h; obtain ⟨rfl, h⟩ := h
  exact ⟨k, (varint_Put_l6_eq0 k K k (n0, b2, t13)).trans h⟩
theorem varint_Put_j11_eq0 {ρ : Type} (k : Nat) (K : Ex → St UU → Option ρ) (n0 : Int) (b2 : List Int) (low3 : Int) : exec UX (varint_Put_cfg k) (varint_Put_G k) (varint_Put_J.getD 0 .skip) ⟨[(0, .pv (.int .u64 n0)), (2, .own (.li_u8 b2)), (3, .pv (.int .u8 low3))], []⟩ (nrmK UX (varint_Put_cfg k) 11 K) = varint_Put_j11 k (fun n0 b2 low3 => K (.goto 0) ⟨[(0, .pv (.int .u64 n0)), (2, .own (.li_u8 b2)), (3, .pv (.int .u8 low3))], []⟩) (fun b2 => K .ret ⟨[(2, .own (.li_u8 b2))], []⟩) n0 b2 low3 := by kernel_rfl
theorem varint_Put_j11_ok0 {ρ : Type} (k : Nat) : JoinOK UX (varint_Put_cfg (ρ := ρ) k) (varint_Put_G k) (varint_Put_J.getD 0 .skip) 11 (varint_Put_j11_s k) := by
  intro s K r h
  obtain ⟨env, hp⟩ := s
  unfold varint_Put_j11_s at h
  replace h := popS_inv h; obtain ⟨v1, e2, rfl, h⟩ := h
  replace h := asI_inv h; obtain ⟨n0, rfl, h⟩ := h
  replace h := popS_inv h; obtain ⟨v3, e4, rfl, h⟩ := h
  replace h := asO_li_u8_inv h; obtain ⟨b2, rfl, h⟩ := h
  replace h := popS_inv h; obtain ⟨v5, e6, rfl, h⟩ := h
  replace h := asI_inv h; obtain ⟨low3, rfl, h⟩ := h
  replace h := popN_inv h; obtain ⟨rfl, h⟩ := h
  replace h := popN_inv h; obtain ⟨rfl, h⟩ := h
  exact (varint_Put_j11_eq0 k K n0 b2 low3).trans h
noncomputable def varint_Put_g0_f0 {ρ : Type} (k : Nat) : Run UX ρ := (suff UX (varint_Put_cfg k) (varint_Put_G k) (varint_Put_S.getD 0 .skip) 0).getD fun _ _ => none
theorem varint_Put_g0_eq0 {ρ : Type} (k : Nat) (K : Ex → St UU → Option ρ) : ∀ (n : Nat) (v : Int × (List Int) × Int), scopeN UX (fun l s => s.at (varint_Put_cfg (ρ := ρ) k).live (varint_Put_cfg (ρ := ρ) k).boxes (some ((varint_Put_cfg (ρ := ρ) k).labelR l))) (suff UX (varint_Put_cfg k) (varint_Put_G k) (varint_Put_S.getD 0 .skip)) (fun l => ((varint_Put_cfg (ρ := ρ) k).labels l).isSome) n (varint_Put_g0_f0 k) ⟨[(0, .pv (.int .u64 v.1)), (2, .own (.li_u8 v.2.1)), (3, .pv (.int .u8 v.2.2))], []⟩ (nrmK UX (varint_Put_cfg k) ((varint_Put_cfg (ρ := ρ) k).labelR 0) K) = varint_Put_g0 k (fun b2 => K .ret ⟨[(2, .own (.li_u8 b2))], []⟩) n v.1 v.2.1 v.2.2 :=
  scope_rec (X := UX) (fun _ => varint_Put_g0_f0 k) (fun v => ⟨[(0, .pv (.int .u64 v.1)), (2, .own (.li_u8 v.2.1)), (3, .pv (.int .u8 v.2.2))], []⟩) (fun rec v => varint_Put_g0_b k (fun b2 => K .ret ⟨[(2, .own (.li_u8 b2))], []⟩) (fun n0 b2 low3 => rec (n0, b2, low3)) v.1 v.2.1 v.2.2) (fun n v => varint_Put_g0 k (fun b2 => K .ret ⟨[(2, .own (.li_u8 b2))], []⟩) n v.1 v.2.1 v.2.2) (fun n v => by kernel_rfl) (fun _ => rfl) (fun _ _ => rfl)
theorem varint_Put_g0_ok0 {ρ : Type} (k : Nat) : LabOK UX (varint_Put_cfg (ρ := ρ) k) (varint_Put_G k) (varint_Put_S.getD 0 .skip) 0 (varint_Put_g0_s k) := by
  intro f hf s K r h
  have hf : varint_Put_g0_f0 k = f := by unfold varint_Put_g0_f0; rw [hf]; rfl
  subst hf
  obtain ⟨env, hp⟩ := s
  unfold varint_Put_g0_s at h
  replace h := popS_inv h; obtain ⟨v1, e2, rfl, h⟩ := h
  replace h := asI_inv h; obtain ⟨n0, rfl, h⟩ := h
  replace h := popS_inv h; obtain ⟨v3, e4, rfl, h⟩ := h
  replace h := asO_li_u8_inv h; obtain ⟨b2, rfl, h⟩ := h
  replace h := popS_inv h; obtain ⟨v5, e6, rfl, h⟩ := h
  replace h := asI_inv h; obtain ⟨low3, rfl, h⟩ := h
  replace h := popN_inv h; obtain ⟨rfl, h⟩ := h
  replace h := popN_inv h; obtain ⟨rfl, h⟩ := h
  exact ⟨k, (varint_Put_g0_eq0 k K k (n0, b2, low3)).trans h⟩
theorem varint_Put_cok {ρ : Type} (k : Nat) : COK (varint_Put_cfg (ρ := ρ) k) (varint_Put_G k) varint_Put_code :=
  cok_of (tl := [(6, varint_Put_l6_s k)]) (tj := [(11, varint_Put_j11_s k)]) (tb := [(0, varint_Put_g0_s k)]) rfl rfl rfl (all_nth 1 (by kernel_rfl) ⟨iter_case (by kernel_rfl) rfl (varint_Put_l6_ok0 k), trivial⟩) (all_nth 1 (by kernel_rfl) ⟨join_case (by kernel_rfl) rfl (varint_Put_j11_ok0 k), trivial⟩) (fun p hp => by
    simp only [List.mem_cons, List.not_mem_nil, or_false] at hp
    subst hp
    · exact all_nth 1 (by kernel_rfl) ⟨varint_Put_g0_ok0 k, trivial⟩)
noncomputable def varint_Put_enc (r : (List Int)) : AV UU := .own (.li_u8 r)
noncomputable def varint_Put_dec (v : AV UU) (_ : List (List (AV UU))) : Option (List Int) :=
asO_li_u8 v fun r =>
some r
theorem varint_Put_dec_enc (v : AV UU) (b : List (List (AV UU))) (r : (List Int)) (h : varint_Put_dec v b = some r) : v = varint_Put_enc r := by
  unfold varint_Put_dec at h
  replace h := asO_li_u8_inv h; obtain ⟨r, rfl, h⟩ := h
  cases h
  rfl
theorem varint_Put_eq (k : Nat) (n0 : Int) : bodyK UX (varint_Put_cfg k) (varint_Put_G k) Try.f50 [.pv (.int .u64 n0)] [] varint_Put_dec = varint_Put k n0 := by kernel_rfl
theorem varint_Put_con (k : Nat) (n0 : Int) (r : (List Int)) (h : varint_Put k n0 = some r) : Con (X := UX) Try.prog 50 [.pv (.int .u64 n0)] [] (varint_Put_enc r) [] :=
  con_of_body xok tok Try.func50 varint_Put_body (varint_Put_gok k) rfl (varint_Put_cok k) (of_decide_eq_true (by kernel_rfl)) varint_Put_dec_enc ((varint_Put_eq k n0).trans h)
noncomputable def varint_Put_an {ρ : Type} (k : Nat) : An UX ρ := fun args bx K =>
popA args fun v1 a2 =>
asI .u64 v1 fun n0 =>
popN a2 <|
popN bx <|
(varint_Put k n0).bind fun r => K (varint_Put_enc r) []
theorem varint_Put_ok {ρ : Type} (k : Nat) : AnsOK Try.prog 50 (varint_Put_an (ρ := ρ) k) := by
  intro args bx K r h
  unfold varint_Put_an at h
  replace h := popA_inv h; obtain ⟨v1, a2, rfl, h⟩ := h
  replace h := asI_inv h; obtain ⟨n0, rfl, h⟩ := h
  replace h := popN_inv h; obtain ⟨rfl, h⟩ := h
  replace h := popN_inv h; obtain ⟨rfl, h⟩ := h
  replace h := bind_inv h
  obtain ⟨x, hx, h⟩ := h
  exact ⟨there_of Try.func50 (by kernel_rfl) varint_Put_body, _, _, h, varint_Put_con k n0 x hx⟩

/-! cadastre/node.Room -/
noncomputable def node_Room_code : Code := match Try.f17.body with | some c => c | none => .skip
theorem node_Room_body : Try.f17.body = some node_Room_code := by kernel_rfl
noncomputable def node_Room_G {ρ : Type} (k : Nat) : Ans UX ρ := gk 50 (varint_Put_an k) (gnil)
theorem node_Room_gok {ρ : Type} (k : Nat) : GOK Try.prog (node_Room_G (ρ := ρ) k) := gok_cons (varint_Put_ok k) (gok_nil)
noncomputable def node_Room_l3_s {ρ : Type} (k : Nat) : Run UX ρ := fun s K =>
popS 3 s.env fun v1 e2 =>
asI .i64 v1 fun n3 =>
popS 6 e2 fun v3 e4 =>
as_lli_u8 v3 fun t6 =>
popS 7 e4 fun v5 e6 =>
asI .i64 v5 fun t7 =>
popS 8 e6 fun v7 e8 =>
asI .i64 v7 fun t8 =>
popN e8 <|
popN s.hp <|
node_Room_l3 k (fun n3 => K (.exit 0) ⟨[(3, .pv (.int .i64 n3))], []⟩) k n3 t6 t7 t8
noncomputable def node_Room_cfg {ρ : Type} (k : Nat) : Cfg UX ρ where
  live i := (assoc [(0, [0]), (1, [0]), (2, [0, 3]), (3, [3, 6, 7, 8]), (4, [3, 6, 7, 8]), (5, [3, 5, 6, 7, 8]), (6, [3, 6, 7, 8]), (7, [3])] i).getD []
  boxes i := (assoc [(0, []), (1, []), (2, []), (3, []), (4, []), (5, []), (6, []), (7, [])] i).getD []
  tk i := (assoc [] i).getD []
  n := 25
  labelR l := (assoc [] l).getD 0
  loops := assoc [(3, node_Room_l3_s k)]
  labels := assoc []
  joins := assoc []
  xl i e := match e with
    | .nxt => assoc [] i
    | .ret => assoc [] i
    | .exit j => (assoc [(3, [(0, ([3], []))])] i).bind fun l => assoc l j
    | .goto j => (assoc [] i).bind fun l => assoc l j
noncomputable def node_Room_L : List Code := selI [3] (loopsOf node_Room_code)
noncomputable def node_Room_J : List Code := selI [] (joinsOf node_Room_code)
noncomputable def node_Room_S : List Code := scopesOf node_Room_code
theorem node_Room_l3_eq0 {ρ : Type} (k : Nat) (K : Ex → St UU → Option ρ) : ∀ (n : Nat) (v : Int × (List (List Int)) × Int × Int), iterK UX (fun s => s.at (node_Room_cfg (ρ := ρ) k).live (node_Room_cfg (ρ := ρ) k).boxes (some 3)) (exec UX (node_Room_cfg k) (node_Room_G k) (node_Room_L.getD 0 .skip)) n ⟨[(3, .pv (.int .i64 v.1)), (6, .pv (.typ (.lli_u8 v.2.1))), (7, .pv (.int .i64 v.2.2.1)), (8, .pv (.int .i64 v.2.2.2))], []⟩ (nrmK UX (node_Room_cfg k) 3 K) = node_Room_l3 k (fun n3 => K (.exit 0) ⟨[(3, .pv (.int .i64 n3))], []⟩) n v.1 v.2.1 v.2.2.1 v.2.2.2 :=
  iter_rec (X := UX) (fun v => ⟨[(3, .pv (.int .i64 v.1)), (6, .pv (.typ (.lli_u8 v.2.1))), (7, .pv (.int .i64 v.2.2.1)), (8, .pv (.int .i64 v.2.2.2))], []⟩) (fun rec v => node_Room_l3_b k (fun n3 => K (.exit 0) ⟨[(3, .pv (.int .i64 n3))], []⟩) (fun n3 t6 t7 t8 => rec (n3, t6, t7, t8)) v.1 v.2.1 v.2.2.1 v.2.2.2) (fun n v => node_Room_l3 k (fun n3 => K (.exit 0) ⟨[(3, .pv (.int .i64 n3))], []⟩) n v.1 v.2.1 v.2.2.1 v.2.2.2) (fun n v => by kernel_rfl) (fun _ => rfl) (fun _ _ => rfl)
theorem node_Room_l3_ok0 {ρ : Type} (k : Nat) : IterOK UX (node_Room_cfg (ρ := ρ) k) (node_Room_G k) (node_Room_L.getD 0 .skip) 3 (node_Room_l3_s k) := by
  intro s K r h
  obtain ⟨env, hp⟩ := s
  unfold node_Room_l3_s at h
  replace h := popS_inv h; obtain ⟨v1, e2, rfl, h⟩ := h
  replace h := asI_inv h; obtain ⟨n3, rfl, h⟩ := h
  replace h := popS_inv h; obtain ⟨v3, e4, rfl, h⟩ := h
  replace h := as_lli_u8_inv h; obtain ⟨t6, rfl, h⟩ := h
  replace h := popS_inv h; obtain ⟨v5, e6, rfl, h⟩ := h
  replace h := asI_inv h; obtain ⟨t7, rfl, h⟩ := h
  replace h := popS_inv h; obtain ⟨v7, e8, rfl, h⟩ := h
  replace h := asI_inv h; obtain ⟨t8, rfl, h⟩ := h
  replace h := popN_inv h; obtain ⟨rfl, h⟩ := h
  replace h := popN_inv h; obtain ⟨rfl, h⟩ := h
  exact ⟨k, (node_Room_l3_eq0 k K k (n3, t6, t7, t8)).trans h⟩
theorem node_Room_cok {ρ : Type} (k : Nat) : COK (node_Room_cfg (ρ := ρ) k) (node_Room_G k) node_Room_code :=
  cok_of (tl := [(3, node_Room_l3_s k)]) (tj := []) (tb := []) rfl rfl rfl (all_nth 1 (by kernel_rfl) ⟨iter_case (by kernel_rfl) rfl (node_Room_l3_ok0 k), trivial⟩) (nil_all (by kernel_rfl)) (fun p hp => by cases hp)
noncomputable def node_Room_enc (r : Int) : AV UU := .pv (.int .i64 r)
noncomputable def node_Room_dec (v : AV UU) (_ : List (List (AV UU))) : Option Int :=
asI .i64 v fun r0 =>
some r0
theorem node_Room_dec_enc (v : AV UU) (b : List (List (AV UU))) (r : Int) (h : node_Room_dec v b = some r) : v = node_Room_enc r := by
  unfold node_Room_dec at h
  replace h := asI_inv h; obtain ⟨r0, rfl, h⟩ := h
  cases h
  rfl
theorem node_Room_eq (k : Nat) (cells0 : List (List Int)) : bodyK UX (node_Room_cfg k) (node_Room_G k) Try.f17 [.pv (.typ (.lli_u8 cells0))] [] node_Room_dec = node_Room k cells0 := by kernel_rfl
theorem node_Room_con (k : Nat) (cells0 : List (List Int)) (r : Int) (h : node_Room k cells0 = some r) : Con (X := UX) Try.prog 17 [.pv (.typ (.lli_u8 cells0))] [] (node_Room_enc r) [] :=
  con_of_body xok tok Try.func17 node_Room_body (node_Room_gok k) rfl (node_Room_cok k) (of_decide_eq_true (by kernel_rfl)) node_Room_dec_enc ((node_Room_eq k cells0).trans h)
noncomputable def node_Room_an {ρ : Type} (k : Nat) : An UX ρ := fun args bx K =>
popA args fun v1 a2 =>
as_lli_u8 v1 fun cells0 =>
popN a2 <|
popN bx <|
(node_Room k cells0).bind fun r => K (node_Room_enc r) []
theorem node_Room_ok {ρ : Type} (k : Nat) : AnsOK Try.prog 17 (node_Room_an (ρ := ρ) k) := by
  intro args bx K r h
  unfold node_Room_an at h
  replace h := popA_inv h; obtain ⟨v1, a2, rfl, h⟩ := h
  replace h := as_lli_u8_inv h; obtain ⟨cells0, rfl, h⟩ := h
  replace h := popN_inv h; obtain ⟨rfl, h⟩ := h
  replace h := popN_inv h; obtain ⟨rfl, h⟩ := h
  replace h := bind_inv h
  obtain ⟨x, hx, h⟩ := h
  exact ⟨there_of Try.func17 (by kernel_rfl) node_Room_body, _, _, h, node_Room_con k cells0 x hx⟩

/-! slices.Grow[[]byte,byte] -/
noncomputable def slices_Grow_byte_byte__n0_code : Code := match Try.f75.body with | some c => c | none => .skip
theorem slices_Grow_byte_byte__n0_body : Try.f75.body = some slices_Grow_byte_byte__n0_code := by kernel_rfl
noncomputable def slices_Grow_byte_byte__n0_enc (r : List Int) : AV UU := .own (.li_u8 r)
open Go.RowKit in
set_option maxRecDepth 100000 in
set_option maxHeartbeats 1000000 in
theorem slices_Grow_byte_byte__n0_con (k : Nat) (c1 : Int) (r : List Int) (h : slices_Grow_byte_byte__n0 k c1 = some r) : Con (X := UX) Try.prog 75 [.nil, .pv (.int .i64 c1)] [] (slices_Grow_byte_byte__n0_enc r) [] := by
  unfold slices_Grow_byte_byte__n0 at h
  unfold chk at h
  split at h
  · rename_i hc
    obtain rfl := Option.some.inj h
    exact con_growL xok tok Try.growB (u := .li_u8 []) rfl rfl (td := .int .u8) (by kernel_rfl) (by kernel_rfl) hc.1 hc.2
  · cases h
noncomputable def slices_Grow_byte_byte__n0_an {ρ : Type} (k : Nat) : An UX ρ := fun args bx K =>
popA args fun v1 a2 =>
asNil v1 <|
popA a2 fun v3 a4 =>
asI .i64 v3 fun c1 =>
popN a4 <|
popN bx <|
(slices_Grow_byte_byte__n0 k c1).bind fun r => K (slices_Grow_byte_byte__n0_enc r) []
theorem slices_Grow_byte_byte__n0_ok {ρ : Type} (k : Nat) : AnsOK Try.prog 75 (slices_Grow_byte_byte__n0_an (ρ := ρ) k) := by
  intro args bx K r h
  unfold slices_Grow_byte_byte__n0_an at h
  replace h := popA_inv h; obtain ⟨v1, a2, rfl, h⟩ := h
  replace h := asNil_inv h; obtain ⟨rfl, h⟩ := h
  replace h := popA_inv h; obtain ⟨v3, a4, rfl, h⟩ := h
  replace h := asI_inv h; obtain ⟨c1, rfl, h⟩ := h
  replace h := popN_inv h; obtain ⟨rfl, h⟩ := h
  replace h := popN_inv h; obtain ⟨rfl, h⟩ := h
  replace h := bind_inv h
  obtain ⟨x, hx, h⟩ := h
  exact ⟨there_of Try.func75 (by kernel_rfl) slices_Grow_byte_byte__n0_body, _, _, h, slices_Grow_byte_byte__n0_con k c1 x hx⟩

/-! slices.Concat[[]byte,byte] -/
noncomputable def slices_Concat_byte_byte__code : Code := match Try.f57.body with | some c => c | none => .skip
theorem slices_Concat_byte_byte__body : Try.f57.body = some slices_Concat_byte_byte__code := by kernel_rfl
noncomputable def slices_Concat_byte_byte__G {ρ : Type} (k : Nat) : Ans UX ρ := gk 75 (slices_Grow_byte_byte__n0_an k) (gnil)
theorem slices_Concat_byte_byte__gok {ρ : Type} (k : Nat) : GOK Try.prog (slices_Concat_byte_byte__G (ρ := ρ) k) := gok_cons (slices_Grow_byte_byte__n0_ok k) (gok_nil)
noncomputable def slices_Concat_byte_byte__l3_s {ρ : Type} (k : Nat) : Run UX ρ := fun s K =>
popS 0 s.env fun v1 e2 =>
as_lli_u8 v1 fun slices0 =>
popS 3 e2 fun v3 e4 =>
asI .i64 v3 fun size3 =>
popS 9 e4 fun v5 e6 =>
as_lli_u8 v5 fun t9 =>
popS 10 e6 fun v7 e8 =>
asI .i64 v7 fun t10 =>
popS 11 e8 fun v9 e10 =>
asI .i64 v9 fun t11 =>
popN e10 <|
popN s.hp <|
slices_Concat_byte_byte__l3 k (fun slices0 size3 => K (.exit 0) ⟨[(0, .pv (.typ (.lli_u8 slices0))), (3, .pv (.int .i64 size3))], []⟩) k slices0 size3 t9 t10 t11
noncomputable def slices_Concat_byte_byte__l11_s {ρ : Type} (k : Nat) : Run UX ρ := fun s K =>
popS 6 s.env fun v1 e2 =>
asO_li_u8 v1 fun newslice6 =>
popS 25 e2 fun v3 e4 =>
as_lli_u8 v3 fun t25 =>
popS 26 e4 fun v5 e6 =>
asI .i64 v5 fun t26 =>
popS 27 e6 fun v7 e8 =>
asI .i64 v7 fun t27 =>
popN e8 <|
popN s.hp <|
slices_Concat_byte_byte__l11 k (fun newslice6 => K (.exit 2) ⟨[(6, .own (.li_u8 newslice6))], []⟩) k newslice6 t25 t26 t27
noncomputable def slices_Concat_byte_byte__cfg {ρ : Type} (k : Nat) : Cfg UX ρ where
  live i := (assoc [(0, [0]), (1, [0]), (2, [0, 3]), (3, [0, 3, 9, 10, 11]), (4, [0, 3, 9, 10, 11]), (5, [0, 3, 5, 9, 10, 11]), (6, [0, 3, 9, 10, 11]), (7, [0, 3, 9, 10, 11]), (8, [0, 3, 9, 10, 11]), (9, [0, 3]), (10, [0, 6]), (11, [6, 25, 26, 27]), (12, [6, 25, 26, 27]), (13, [6, 8, 25, 26, 27]), (14, [6, 25, 26, 27]), (15, [6])] i).getD []
  boxes i := (assoc [(0, []), (1, []), (2, []), (3, []), (4, []), (5, []), (6, []), (7, []), (8, []), (9, []), (10, []), (11, []), (12, []), (13, []), (14, []), (15, [])] i).getD []
  tk i := (assoc [(1000000, [2]), (3000075, [1])] i).getD []
  n := 36
  labelR l := (assoc [] l).getD 0
  loops := assoc [(3, slices_Concat_byte_byte__l3_s k), (11, slices_Concat_byte_byte__l11_s k)]
  labels := assoc []
  joins := assoc []
  xl i e := match e with
    | .nxt => assoc [] i
    | .ret => assoc [] i
    | .exit j => (assoc [(3, [(0, ([0, 3], []))]), (11, [(2, ([6], []))])] i).bind fun l => assoc l j
    | .goto j => (assoc [] i).bind fun l => assoc l j
noncomputable def slices_Concat_byte_byte__L : List Code := selI [3, 11] (loopsOf slices_Concat_byte_byte__code)
noncomputable def slices_Concat_byte_byte__J : List Code := selI [] (joinsOf slices_Concat_byte_byte__code)
noncomputable def slices_Concat_byte_byte__S : List Code := scopesOf slices_Concat_byte_byte__code
theorem slices_Concat_byte_byte__l3_eq0 {ρ : Type} (k : Nat) (K : Ex → St UU → Option ρ) : ∀ (n : Nat) (v : (List (List Int)) × Int × (List (List Int)) × Int × Int), iterK UX (fun s => s.at (slices_Concat_byte_byte__cfg (ρ := ρ) k).live (slices_Concat_byte_byte__cfg (ρ := ρ) k).boxes (some 3)) (exec UX (slices_Concat_byte_byte__cfg k) (slices_Concat_byte_byte__G k) (slices_Concat_byte_byte__L.getD 0 .skip)) n ⟨[(0, .pv (.typ (.lli_u8 v.1))), (3, .pv (.int .i64 v.2.1)), (9, .pv (.typ (.lli_u8 v.2.2.1))), (10, .pv (.int .i64 v.2.2.2.1)), (11, .pv (.int .i64 v.2.2.2.2))], []⟩ (nrmK UX (slices_Concat_byte_byte__cfg k) 3 K) = slices_Concat_byte_byte__l3 k (fun slices0 size3 => K (.exit 0) ⟨[(0, .pv (.typ (.lli_u8 slices0))), (3, .pv (.int .i64 size3))], []⟩) n v.1 v.2.1 v.2.2.1 v.2.2.2.1 v.2.2.2.2 :=
  iter_rec (X := UX) (fun v => ⟨[(0, .pv (.typ (.lli_u8 v.1))), (3, .pv (.int .i64 v.2.1)), (9, .pv (.typ (.lli_u8 v.2.2.1))), (10, .pv (.int .i64 v.2.2.2.1)), (11, .pv (.int .i64 v.2.2.2.2))], []⟩) (fun rec v => slices_Concat_byte_byte__l3_b k (fun slices0 size3 => K (.exit 0) ⟨[(0, .pv (.typ (.lli_u8 slices0))), (3, .pv (.int .i64 size3))], []⟩) (fun slices0 size3 t9 t10 t11 => rec (slices0, size3, t9, t10, t11)) v.1 v.2.1 v.2.2.1 v.2.2.2.1 v.2.2.2.2) (fun n v => slices_Concat_byte_byte__l3 k (fun slices0 size3 => K (.exit 0) ⟨[(0, .pv (.typ (.lli_u8 slices0))), (3, .pv (.int .i64 size3))], []⟩) n v.1 v.2.1 v.2.2.1 v.2.2.2.1 v.2.2.2.2) (fun n v => by kernel_rfl) (fun _ => rfl) (fun _ _ => rfl)
theorem slices_Concat_byte_byte__l3_ok0 {ρ : Type} (k : Nat) : IterOK UX (slices_Concat_byte_byte__cfg (ρ := ρ) k) (slices_Concat_byte_byte__G k) (slices_Concat_byte_byte__L.getD 0 .skip) 3 (slices_Concat_byte_byte__l3_s k) := by
  intro s K r h
  obtain ⟨env, hp⟩ := s
  unfold slices_Concat_byte_byte__l3_s at h
  replace h := popS_inv h; obtain ⟨v1, e2, rfl, h⟩ := h
  replace h := as_lli_u8_inv h; obtain ⟨slices0, rfl, h⟩ := h
  replace h := popS_inv h; obtain ⟨v3, e4, rfl, h⟩ := h
  replace h := asI_inv h; obtain ⟨size3, rfl, h⟩ := h
  replace h := popS_inv h; obtain ⟨v5, e6, rfl, h⟩ := h
  replace h := as_lli_u8_inv h; obtain ⟨t9, rfl, h⟩ := h
  replace h := popS_inv h; obtain ⟨v7, e8, rfl, h⟩ := h
  replace h := asI_inv h; obtain ⟨t10, rfl, h⟩ := h
  replace h := popS_inv h; obtain ⟨v9, e10, rfl, h⟩ := h
  replace h := asI_inv h; obtain ⟨t11, rfl, h⟩ := h
  replace h := popN_inv h; obtain ⟨rfl, h⟩ := h
  replace h := popN_inv h; obtain ⟨rfl, h⟩ := h
  exact ⟨k, (slices_Concat_byte_byte__l3_eq0 k K k (slices0, size3, t9, t10, t11)).trans h⟩
theorem slices_Concat_byte_byte__l11_eq1 {ρ : Type} (k : Nat) (K : Ex → St UU → Option ρ) : ∀ (n : Nat) (v : (List Int) × (List (List Int)) × Int × Int), iterK UX (fun s => s.at (slices_Concat_byte_byte__cfg (ρ := ρ) k).live (slices_Concat_byte_byte__cfg (ρ := ρ) k).boxes (some 11)) (exec UX (slices_Concat_byte_byte__cfg k) (slices_Concat_byte_byte__G k) (slices_Concat_byte_byte__L.getD 1 .skip)) n ⟨[(6, .own (.li_u8 v.1)), (25, .pv (.typ (.lli_u8 v.2.1))), (26, .pv (.int .i64 v.2.2.1)), (27, .pv (.int .i64 v.2.2.2))], []⟩ (nrmK UX (slices_Concat_byte_byte__cfg k) 11 K) = slices_Concat_byte_byte__l11 k (fun newslice6 => K (.exit 2) ⟨[(6, .own (.li_u8 newslice6))], []⟩) n v.1 v.2.1 v.2.2.1 v.2.2.2 :=
  iter_rec (X := UX) (fun v => ⟨[(6, .own (.li_u8 v.1)), (25, .pv (.typ (.lli_u8 v.2.1))), (26, .pv (.int .i64 v.2.2.1)), (27, .pv (.int .i64 v.2.2.2))], []⟩) (fun rec v => slices_Concat_byte_byte__l11_b k (fun newslice6 => K (.exit 2) ⟨[(6, .own (.li_u8 newslice6))], []⟩) (fun newslice6 t25 t26 t27 => rec (newslice6, t25, t26, t27)) v.1 v.2.1 v.2.2.1 v.2.2.2) (fun n v => slices_Concat_byte_byte__l11 k (fun newslice6 => K (.exit 2) ⟨[(6, .own (.li_u8 newslice6))], []⟩) n v.1 v.2.1 v.2.2.1 v.2.2.2) (fun n v => by kernel_rfl) (fun _ => rfl) (fun _ _ => rfl)
theorem slices_Concat_byte_byte__l11_ok1 {ρ : Type} (k : Nat) : IterOK UX (slices_Concat_byte_byte__cfg (ρ := ρ) k) (slices_Concat_byte_byte__G k) (slices_Concat_byte_byte__L.getD 1 .skip) 11 (slices_Concat_byte_byte__l11_s k) := by
  intro s K r h
  obtain ⟨env, hp⟩ := s
  unfold slices_Concat_byte_byte__l11_s at h
  replace h := popS_inv h; obtain ⟨v1, e2, rfl, h⟩ := h
  replace h := asO_li_u8_inv h; obtain ⟨newslice6, rfl, h⟩ := h
  replace h := popS_inv h; obtain ⟨v3, e4, rfl, h⟩ := h
  replace h := as_lli_u8_inv h; obtain ⟨t25, rfl, h⟩ := h
  replace h := popS_inv h; obtain ⟨v5, e6, rfl, h⟩ := h
  replace h := asI_inv h; obtain ⟨t26, rfl, h⟩ := h
  replace h := popS_inv h; obtain ⟨v7, e8, rfl, h⟩ := h
  replace h := asI_inv h; obtain ⟨t27, rfl, h⟩ := h
  replace h := popN_inv h; obtain ⟨rfl, h⟩ := h
  replace h := popN_inv h; obtain ⟨rfl, h⟩ := h
  exact ⟨k, (slices_Concat_byte_byte__l11_eq1 k K k (newslice6, t25, t26, t27)).trans h⟩
theorem slices_Concat_byte_byte__cok {ρ : Type} (k : Nat) : COK (slices_Concat_byte_byte__cfg (ρ := ρ) k) (slices_Concat_byte_byte__G k) slices_Concat_byte_byte__code :=
  cok_of (tl := [(3, slices_Concat_byte_byte__l3_s k), (11, slices_Concat_byte_byte__l11_s k)]) (tj := []) (tb := []) rfl rfl rfl (all_nth 2 (by kernel_rfl) ⟨iter_case (by kernel_rfl) rfl (slices_Concat_byte_byte__l11_ok1 k), iter_case (by kernel_rfl) rfl (slices_Concat_byte_byte__l3_ok0 k), trivial⟩) (nil_all (by kernel_rfl)) (fun p hp => by cases hp)
noncomputable def slices_Concat_byte_byte__enc (r : (List Int)) : AV UU := .own (.li_u8 r)
noncomputable def slices_Concat_byte_byte__dec (v : AV UU) (_ : List (List (AV UU))) : Option (List Int) :=
asO_li_u8 v fun r =>
some r
theorem slices_Concat_byte_byte__dec_enc (v : AV UU) (b : List (List (AV UU))) (r : (List Int)) (h : slices_Concat_byte_byte__dec v b = some r) : v = slices_Concat_byte_byte__enc r := by
  unfold slices_Concat_byte_byte__dec at h
  replace h := asO_li_u8_inv h; obtain ⟨r, rfl, h⟩ := h
  cases h
  rfl
theorem slices_Concat_byte_byte__eq (k : Nat) (slices0 : List (List Int)) : bodyK UX (slices_Concat_byte_byte__cfg k) (slices_Concat_byte_byte__G k) Try.f57 [.pv (.typ (.lli_u8 slices0))] [] slices_Concat_byte_byte__dec = slices_Concat_byte_byte_ k slices0 := by kernel_rfl
theorem slices_Concat_byte_byte__con (k : Nat) (slices0 : List (List Int)) (r : (List Int)) (h : slices_Concat_byte_byte_ k slices0 = some r) : Con (X := UX) Try.prog 57 [.pv (.typ (.lli_u8 slices0))] [] (slices_Concat_byte_byte__enc r) [] :=
  con_of_body xok tok Try.func57 slices_Concat_byte_byte__body (slices_Concat_byte_byte__gok k) rfl (slices_Concat_byte_byte__cok k) (of_decide_eq_true (by kernel_rfl)) slices_Concat_byte_byte__dec_enc ((slices_Concat_byte_byte__eq k slices0).trans h)
noncomputable def slices_Concat_byte_byte__an {ρ : Type} (k : Nat) : An UX ρ := fun args bx K =>
popA args fun v1 a2 =>
as_lli_u8 v1 fun slices0 =>
popN a2 <|
popN bx <|
(slices_Concat_byte_byte_ k slices0).bind fun r => K (slices_Concat_byte_byte__enc r) []
theorem slices_Concat_byte_byte__ok {ρ : Type} (k : Nat) : AnsOK Try.prog 57 (slices_Concat_byte_byte__an (ρ := ρ) k) := by
  intro args bx K r h
  unfold slices_Concat_byte_byte__an at h
  replace h := popA_inv h; obtain ⟨v1, a2, rfl, h⟩ := h
  replace h := as_lli_u8_inv h; obtain ⟨slices0, rfl, h⟩ := h
  replace h := popN_inv h; obtain ⟨rfl, h⟩ := h
  replace h := popN_inv h; obtain ⟨rfl, h⟩ := h
  replace h := bind_inv h
  obtain ⟨x, hx, h⟩ := h
  exact ⟨there_of Try.func57 (by kernel_rfl) slices_Concat_byte_byte__body, _, _, h, slices_Concat_byte_byte__con k slices0 x hx⟩

/-! cadastre/node.Encode -/
noncomputable def node_Encode_code : Code := match Try.f29.body with | some c => c | none => .skip
theorem node_Encode_body : Try.f29.body = some node_Encode_code := by kernel_rfl
noncomputable def node_Encode_G {ρ : Type} (k : Nat) : Ans UX ρ := gk 17 (node_Room_an k) (gk 50 (varint_Put_an k) (gk 57 (slices_Concat_byte_byte__an k) (gnil)))
theorem node_Encode_gok {ρ : Type} (k : Nat) : GOK Try.prog (node_Encode_G (ρ := ρ) k) := gok_cons (node_Room_ok k) (gok_cons (varint_Put_ok k) (gok_cons (slices_Concat_byte_byte__ok k) (gok_nil)))
noncomputable def node_Encode_l10_s {ρ : Type} (k : Nat) : Run UX ρ := fun s K =>
popS 8 s.env fun v1 e2 =>
asO_li_u8 v1 fun p8 =>
popS 10 e2 fun v3 e4 =>
asI .i64 v3 fun end10 =>
popS 55 e4 fun v5 e6 =>
as_lli_u8 v5 fun t55 =>
popS 56 e6 fun v7 e8 =>
asI .i64 v7 fun t56 =>
popS 57 e8 fun v9 e10 =>
asI .i64 v9 fun t57 =>
popN e10 <|
popN s.hp <|
node_Encode_l10 k (fun p8 => K (.exit 0) ⟨[(8, .own (.li_u8 p8))], []⟩) k p8 end10 t55 t56 t57
noncomputable def node_Encode_j3_s {ρ : Type} (k : Nat) : Run UX ρ := fun s K =>
popS 0 s.env fun v1 e2 =>
asI .i64 v1 fun kind0 =>
popS 1 e2 fun v3 e4 =>
asI .i64 v3 fun next1 =>
popS 2 e4 fun v5 e6 =>
as_lli_u8 v5 fun cells2 =>
popN e6 <|
popN s.hp <|
node_Encode_j3 k (fun t6 t7 => K .ret ⟨[(6, .own (.li_u8 t6)), (7, .pv (.int .i64 t7))], []⟩) kind0 next1 cells2
noncomputable def node_Encode_cfg {ρ : Type} (k : Nat) : Cfg UX ρ where
  live i := (assoc [(0, [0, 1, 2]), (1, [0, 1, 2]), (2, []), (3, [0, 1, 2]), (4, []), (5, [0, 1, 2]), (6, [0, 1, 2, 8]), (7, [0, 1, 2, 8, 9]), (8, [2, 8]), (9, [2, 8, 10]), (10, [8, 10, 55, 56, 57]), (11, [8, 10, 55, 56, 57]), (12, [8, 10, 11, 12, 55, 56, 57]), (13, [8, 10, 11, 13, 55, 56, 57]), (14, [8, 10, 11, 13, 55, 56, 57]), (15, [8, 10, 11, 55, 56, 57]), (16, [8, 10, 55, 56, 57]), (17, [8])] i).getD []
  boxes i := (assoc [(0, []), (1, []), (2, []), (3, []), (4, []), (5, []), (6, []), (7, []), (8, []), (9, []), (10, []), (11, []), (12, []), (13, []), (14, []), (15, []), (16, []), (17, [])] i).getD []
  tk i := (assoc [(1000000, [6])] i).getD []
  n := 96
  labelR l := (assoc [] l).getD 0
  loops := assoc [(10, node_Encode_l10_s k)]
  labels := assoc []
  joins := assoc [(3, node_Encode_j3_s k)]
  xl i e := match e with
    | .nxt => assoc [] i
    | .ret => assoc [(3, ([6, 7], []))] i
    | .exit j => (assoc [(10, [(0, ([8], []))])] i).bind fun l => assoc l j
    | .goto j => (assoc [] i).bind fun l => assoc l j
noncomputable def node_Encode_L : List Code := selI [10] (loopsOf node_Encode_code)
noncomputable def node_Encode_J : List Code := selI [3] (joinsOf node_Encode_code)
noncomputable def node_Encode_S : List Code := scopesOf node_Encode_code
theorem node_Encode_l10_eq0 {ρ : Type} (k : Nat) (K : Ex → St UU → Option ρ) : ∀ (n : Nat) (v : (List Int) × Int × (List (List Int)) × Int × Int), iterK UX (fun s => s.at (node_Encode_cfg (ρ := ρ) k).live (node_Encode_cfg (ρ := ρ) k).boxes (some 10)) (exec UX (node_Encode_cfg k) (node_Encode_G k) (node_Encode_L.getD 0 .skip)) n ⟨[(8, .own (.li_u8 v.1)), (10, .pv (.int .i64 v.2.1)), (55, .pv (.typ (.lli_u8 v.2.2.1))), (56, .pv (.int .i64 v.2.2.2.1)), (57, .pv (.int .i64 v.2.2.2.2))], []⟩ (nrmK UX (node_Encode_cfg k) 10 K) = node_Encode_l10 k (fun p8 => K (.exit 0) ⟨[(8, .own (.li_u8 p8))], []⟩) n v.1 v.2.1 v.2.2.1 v.2.2.2.1 v.2.2.2.2 :=
  iter_rec (X := UX) (fun v => ⟨[(8, .own (.li_u8 v.1)), (10, .pv (.int .i64 v.2.1)), (55, .pv (.typ (.lli_u8 v.2.2.1))), (56, .pv (.int .i64 v.2.2.2.1)), (57, .pv (.int .i64 v.2.2.2.2))], []⟩) (fun rec v => node_Encode_l10_b k (fun p8 => K (.exit 0) ⟨[(8, .own (.li_u8 p8))], []⟩) (fun p8 end10 t55 t56 t57 => rec (p8, end10, t55, t56, t57)) v.1 v.2.1 v.2.2.1 v.2.2.2.1 v.2.2.2.2) (fun n v => node_Encode_l10 k (fun p8 => K (.exit 0) ⟨[(8, .own (.li_u8 p8))], []⟩) n v.1 v.2.1 v.2.2.1 v.2.2.2.1 v.2.2.2.2) (fun n v => by kernel_rfl) (fun _ => rfl) (fun _ _ => rfl)
theorem node_Encode_l10_ok0 {ρ : Type} (k : Nat) : IterOK UX (node_Encode_cfg (ρ := ρ) k) (node_Encode_G k) (node_Encode_L.getD 0 .skip) 10 (node_Encode_l10_s k) := by
  intro s K r h
  obtain ⟨env, hp⟩ := s
  unfold node_Encode_l10_s at h
  replace h := popS_inv h; obtain ⟨v1, e2, rfl, h⟩ := h
  replace h := asO_li_u8_inv h; obtain ⟨p8, rfl, h⟩ := h
  replace h := popS_inv h; obtain ⟨v3, e4, rfl, h⟩ := h
  replace h := asI_inv h; obtain ⟨end10, rfl, h⟩ := h
  replace h := popS_inv h; obtain ⟨v5, e6, rfl, h⟩ := h
  replace h := as_lli_u8_inv h; obtain ⟨t55, rfl, h⟩ := h
  replace h := popS_inv h; obtain ⟨v7, e8, rfl, h⟩ := h
  replace h := asI_inv h; obtain ⟨t56, rfl, h⟩ := h
  replace h := popS_inv h; obtain ⟨v9, e10, rfl, h⟩ := h
  replace h := asI_inv h; obtain ⟨t57, rfl, h⟩ := h
  replace h := popN_inv h; obtain ⟨rfl, h⟩ := h
  replace h := popN_inv h; obtain ⟨rfl, h⟩ := h
  exact ⟨k, (node_Encode_l10_eq0 k K k (p8, end10, t55, t56, t57)).trans h⟩
theorem node_Encode_j3_eq0 {ρ : Type} (k : Nat) (K : Ex → St UU → Option ρ) (kind0 : Int) (next1 : Int) (cells2 : List (List Int)) : exec UX (node_Encode_cfg k) (node_Encode_G k) (node_Encode_J.getD 0 .skip) ⟨[(0, .pv (.int .i64 kind0)), (1, .pv (.int .i64 next1)), (2, .pv (.typ (.lli_u8 cells2)))], []⟩ (nrmK UX (node_Encode_cfg k) 3 K) = node_Encode_j3 k (fun t6 t7 => K .ret ⟨[(6, .own (.li_u8 t6)), (7, .pv (.int .i64 t7))], []⟩) kind0 next1 cells2 := by kernel_rfl
theorem node_Encode_j3_ok0 {ρ : Type} (k : Nat) : JoinOK UX (node_Encode_cfg (ρ := ρ) k) (node_Encode_G k) (node_Encode_J.getD 0 .skip) 3 (node_Encode_j3_s k) := by
  intro s K r h
  obtain ⟨env, hp⟩ := s
  unfold node_Encode_j3_s at h
  replace h := popS_inv h; obtain ⟨v1, e2, rfl, h⟩ := h
  replace h := asI_inv h; obtain ⟨kind0, rfl, h⟩ := h
  replace h := popS_inv h; obtain ⟨v3, e4, rfl, h⟩ := h
  replace h := asI_inv h; obtain ⟨next1, rfl, h⟩ := h
  replace h := popS_inv h; obtain ⟨v5, e6, rfl, h⟩ := h
  replace h := as_lli_u8_inv h; obtain ⟨cells2, rfl, h⟩ := h
  replace h := popN_inv h; obtain ⟨rfl, h⟩ := h
  replace h := popN_inv h; obtain ⟨rfl, h⟩ := h
  exact (node_Encode_j3_eq0 k K kind0 next1 cells2).trans h
theorem node_Encode_cok {ρ : Type} (k : Nat) : COK (node_Encode_cfg (ρ := ρ) k) (node_Encode_G k) node_Encode_code :=
  cok_of (tl := [(10, node_Encode_l10_s k)]) (tj := [(3, node_Encode_j3_s k)]) (tb := []) rfl rfl rfl (all_nth 1 (by kernel_rfl) ⟨iter_case (by kernel_rfl) rfl (node_Encode_l10_ok0 k), trivial⟩) (all_nth 1 (by kernel_rfl) ⟨join_case (by kernel_rfl) rfl (node_Encode_j3_ok0 k), trivial⟩) (fun p hp => by cases hp)
noncomputable def node_Encode_enc (r : (List Int) × Int) : AV UU := .pv (.tup [.typ (.li_u8 r.1), .int .i64 r.2])
noncomputable def node_Encode_dec (v : AV UU) (_ : List (List (AV UU))) : Option ((List Int) × Int) :=
asT v fun q1 =>
popA q1 fun p2 q3 =>
as_li_u8 (.pv p2) fun r0 =>
popA q3 fun p4 q5 =>
asI .i64 (.pv p4) fun r1 =>
popN q5 <|
some (r0, r1)
theorem node_Encode_dec_enc (v : AV UU) (b : List (List (AV UU))) (r : (List Int) × Int) (h : node_Encode_dec v b = some r) : v = node_Encode_enc r := by
  unfold node_Encode_dec at h
  replace h := asT_inv h; obtain ⟨q1, rfl, h⟩ := h
  replace h := popA_inv h; obtain ⟨p2, q3, rfl, h⟩ := h
  replace h := as_li_u8_inv h; obtain ⟨r0, e, h⟩ := h; cases e
  replace h := popA_inv h; obtain ⟨p4, q5, rfl, h⟩ := h
  replace h := asI_inv h; obtain ⟨r1, e, h⟩ := h; cases e
  replace h := popN_inv h; obtain ⟨rfl, h⟩ := h
  cases h
  rfl
theorem node_Encode_eq (k : Nat) (kind0 : Int) (next1 : Int) (cells2 : List (List Int)) : bodyK UX (node_Encode_cfg k) (node_Encode_G k) Try.f29 [.pv (.int .i64 kind0), .pv (.int .i64 next1), .pv (.typ (.lli_u8 cells2))] [] node_Encode_dec = node_Encode k kind0 next1 cells2 := by kernel_rfl
theorem node_Encode_con (k : Nat) (kind0 : Int) (next1 : Int) (cells2 : List (List Int)) (r : (List Int) × Int) (h : node_Encode k kind0 next1 cells2 = some r) : Con (X := UX) Try.prog 29 [.pv (.int .i64 kind0), .pv (.int .i64 next1), .pv (.typ (.lli_u8 cells2))] [] (node_Encode_enc r) [] :=
  con_of_body xok tok Try.func29 node_Encode_body (node_Encode_gok k) rfl (node_Encode_cok k) (of_decide_eq_true (by kernel_rfl)) node_Encode_dec_enc ((node_Encode_eq k kind0 next1 cells2).trans h)
noncomputable def node_Encode_an {ρ : Type} (k : Nat) : An UX ρ := fun args bx K =>
popA args fun v1 a2 =>
asI .i64 v1 fun kind0 =>
popA a2 fun v3 a4 =>
asI .i64 v3 fun next1 =>
popA a4 fun v5 a6 =>
as_lli_u8 v5 fun cells2 =>
popN a6 <|
popN bx <|
(node_Encode k kind0 next1 cells2).bind fun r => K (node_Encode_enc r) []
theorem node_Encode_ok {ρ : Type} (k : Nat) : AnsOK Try.prog 29 (node_Encode_an (ρ := ρ) k) := by
  intro args bx K r h
  unfold node_Encode_an at h
  replace h := popA_inv h; obtain ⟨v1, a2, rfl, h⟩ := h
  replace h := asI_inv h; obtain ⟨kind0, rfl, h⟩ := h
  replace h := popA_inv h; obtain ⟨v3, a4, rfl, h⟩ := h
  replace h := asI_inv h; obtain ⟨next1, rfl, h⟩ := h
  replace h := popA_inv h; obtain ⟨v5, a6, rfl, h⟩ := h
  replace h := as_lli_u8_inv h; obtain ⟨cells2, rfl, h⟩ := h
  replace h := popN_inv h; obtain ⟨rfl, h⟩ := h
  replace h := popN_inv h; obtain ⟨rfl, h⟩ := h
  replace h := bind_inv h
  obtain ⟨x, hx, h⟩ := h
  exact ⟨there_of Try.func29 (by kernel_rfl) node_Encode_body, _, _, h, node_Encode_con k kind0 next1 cells2 x hx⟩
end Go.Proofs.Ytekjibpkkgldgaa.B
