/-
  What the program's functions answer: the printed functions' answers.
-/
import Derived.Test.YtekjibpkkgldgaaBG0
namespace Go.Proofs.Ytekjibpkkgldgaa.B
open Go Go.AX
/-! cadastre/cadastrelaw11.num -/
noncomputable def cadastrelaw11_num_code : Code := match Try.f30.body with | some c => c | none => .skip
theorem cadastrelaw11_num_body : Try.f30.body = some cadastrelaw11_num_code := by kernel_rfl
noncomputable def cadastrelaw11_num_G {ρ : Type} (k : Nat) : Ans UX ρ := gnil
theorem cadastrelaw11_num_gok {ρ : Type} (k : Nat) : GOK Try.prog (cadastrelaw11_num_G (ρ := ρ) k) := gok_nil
noncomputable def cadastrelaw11_num_cfg {ρ : Type} (k : Nat) : Cfg UX ρ where
  live i := (assoc [(0, [0]), (1, [0])] i).getD []
  boxes i := (assoc [(0, []), (1, [])] i).getD []
  tk i := (assoc [] i).getD []
  n := 4
  labelR l := (assoc [] l).getD 0
  loops := assoc []
  labels := assoc []
  joins := assoc []
  xl i e := match e with
    | .nxt => assoc [] i
    | .ret => assoc [] i
    | .exit j => (assoc [] i).bind fun l => assoc l j
    | .goto j => (assoc [] i).bind fun l => assoc l j
noncomputable def cadastrelaw11_num_L : List Code := selI [] (loopsOf cadastrelaw11_num_code)
noncomputable def cadastrelaw11_num_J : List Code := selI [] (joinsOf cadastrelaw11_num_code)
noncomputable def cadastrelaw11_num_S : List Code := scopesOf cadastrelaw11_num_code
theorem cadastrelaw11_num_cok {ρ : Type} (k : Nat) : COK (cadastrelaw11_num_cfg (ρ := ρ) k) (cadastrelaw11_num_G k) cadastrelaw11_num_code :=
  cok_of (tl := []) (tj := []) (tb := []) rfl rfl rfl (nil_all (by kernel_rfl)) (nil_all (by kernel_rfl)) (fun p hp => by cases hp)
noncomputable def cadastrelaw11_num_enc (r : Int) : AV UU := .pv (.int .i64 r)
noncomputable def cadastrelaw11_num_dec (v : AV UU) (_ : List (List (AV UU))) : Option Int :=
asI .i64 v fun r0 =>
some r0
theorem cadastrelaw11_num_dec_enc (v : AV UU) (b : List (List (AV UU))) (r : Int) (h : cadastrelaw11_num_dec v b = some r) : v = cadastrelaw11_num_enc r := by
  unfold cadastrelaw11_num_dec at h
  replace h := asI_inv h; obtain ⟨r0, rfl, h⟩ := h
  cases h
  rfl
theorem cadastrelaw11_num_eq (k : Nat) (e0 : Int) : bodyK UX (cadastrelaw11_num_cfg k) (cadastrelaw11_num_G k) Try.f30 [.pv (.int .i64 e0)] [] cadastrelaw11_num_dec = cadastrelaw11_num k e0 := by kernel_rfl
theorem cadastrelaw11_num_con (k : Nat) (e0 : Int) (r : Int) (h : cadastrelaw11_num k e0 = some r) : Con (X := UX) Try.prog 30 [.pv (.int .i64 e0)] [] (cadastrelaw11_num_enc r) [] :=
  con_of_body xok tok Try.func30 cadastrelaw11_num_body (cadastrelaw11_num_gok k) rfl (cadastrelaw11_num_cok k) (of_decide_eq_true (by kernel_rfl)) cadastrelaw11_num_dec_enc ((cadastrelaw11_num_eq k e0).trans h)
noncomputable def cadastrelaw11_num_an {ρ : Type} (k : Nat) : An UX ρ := fun args bx K =>
popA args fun v1 a2 =>
asI .i64 v1 fun e0 =>
popN a2 <|
popN bx <|
(cadastrelaw11_num k e0).bind fun r => K (cadastrelaw11_num_enc r) []
theorem cadastrelaw11_num_ok {ρ : Type} (k : Nat) : AnsOK Try.prog 30 (cadastrelaw11_num_an (ρ := ρ) k) := by
  intro args bx K r h
  unfold cadastrelaw11_num_an at h
  replace h := popA_inv h; obtain ⟨v1, a2, rfl, h⟩ := h
  replace h := asI_inv h; obtain ⟨e0, rfl, h⟩ := h
  replace h := popN_inv h; obtain ⟨rfl, h⟩ := h
  replace h := popN_inv h; obtain ⟨rfl, h⟩ := h
  replace h := bind_inv h
  obtain ⟨x, hx, h⟩ := h
  exact ⟨there_of Try.func30 (by kernel_rfl) cadastrelaw11_num_body, _, _, h, cadastrelaw11_num_con k e0 x hx⟩

/-! cadastre/varint.Get -/
noncomputable def varint_Get_code : Code := match Try.f68.body with | some c => c | none => .skip
theorem varint_Get_body : Try.f68.body = some varint_Get_code := by kernel_rfl
noncomputable def varint_Get_G {ρ : Type} (k : Nat) : Ans UX ρ := gnil
theorem varint_Get_gok {ρ : Type} (k : Nat) : GOK Try.prog (varint_Get_G (ρ := ρ) k) := gok_nil
noncomputable def varint_Get_j1_s {ρ : Type} (k : Nat) : Run UX ρ := fun s K =>
popS 0 s.env fun v1 e2 =>
as_li_u8 v1 fun b0 =>
popS 2 e2 fun v3 e4 =>
asI .u64 v3 fun n2 =>
popS 3 e4 fun v5 e6 =>
asI .i64 v5 fun size3 =>
popN e6 <|
popN s.hp <|
varint_Get_j1 k (fun n2 size3 e4 => K .ret ⟨[(2, .pv (.int .u64 n2)), (3, .pv (.int .i64 size3)), (4, .pv (.int .i64 e4))], []⟩) (fun b0 n2 size3 => K (.goto 0) ⟨[(0, .pv (.typ (.li_u8 b0))), (2, .pv (.int .u64 n2)), (3, .pv (.int .i64 size3))], []⟩) b0 n2 size3
noncomputable def varint_Get_g0_s {ρ : Type} (k : Nat) : Run UX ρ := fun s K =>
popS 0 s.env fun v1 e2 =>
as_li_u8 v1 fun b0 =>
popS 2 e2 fun v3 e4 =>
asI .u64 v3 fun n2 =>
popS 3 e4 fun v5 e6 =>
asI .i64 v5 fun size3 =>
popN e6 <|
popN s.hp <|
varint_Get_g0 k (fun n2 size3 e4 => K .ret ⟨[(2, .pv (.int .u64 n2)), (3, .pv (.int .i64 size3)), (4, .pv (.int .i64 e4))], []⟩) k b0 n2 size3
noncomputable def varint_Get_cfg {ρ : Type} (k : Nat) : Cfg UX ρ where
  live i := (assoc [(0, [0]), (1, [0, 2, 3]), (2, []), (3, [0, 2, 3]), (4, [0, 2, 3, 5]), (5, [0, 2, 3, 5]), (6, [2, 3, 5]), (7, [2, 3]), (8, []), (9, [2, 3]), (10, [0, 2, 3, 5]), (11, [0, 2, 3, 5]), (12, [2, 3]), (13, []), (14, [2, 3])] i).getD []
  boxes i := (assoc [(0, []), (1, []), (2, []), (3, []), (4, []), (5, []), (6, []), (7, []), (8, []), (9, []), (10, []), (11, []), (12, []), (13, []), (14, [])] i).getD []
  tk i := (assoc [] i).getD []
  n := 47
  labelR l := (assoc [(0, 1)] l).getD 0
  loops := assoc []
  labels := assoc [(0, varint_Get_g0_s k)]
  joins := assoc [(1, varint_Get_j1_s k)]
  xl i e := match e with
    | .nxt => assoc [] i
    | .ret => assoc [(1, ([2, 3, 4], [])), (1, ([2, 3, 4], []))] i
    | .exit j => (assoc [] i).bind fun l => assoc l j
    | .goto j => (assoc [(1, [(0, ([0, 2, 3], []))])] i).bind fun l => assoc l j
noncomputable def varint_Get_L : List Code := selI [] (loopsOf varint_Get_code)
noncomputable def varint_Get_J : List Code := selI [1] (joinsOf varint_Get_code)
noncomputable def varint_Get_S : List Code := scopesOf varint_Get_code
theorem varint_Get_j1_eq0 {ρ : Type} (k : Nat) (K : Ex → St UU → Option ρ) (b0 : List Int) (n2 : Int) (size3 : Int) : exec UX (varint_Get_cfg k) (varint_Get_G k) (varint_Get_J.getD 0 .skip) ⟨[(0, .pv (.typ (.li_u8 b0))), (2, .pv (.int .u64 n2)), (3, .pv (.int .i64 size3))], []⟩ (nrmK UX (varint_Get_cfg k) 1 K) = varint_Get_j1 k (fun n2 size3 e4 => K .ret ⟨[(2, .pv (.int .u64 n2)), (3, .pv (.int .i64 size3)), (4, .pv (.int .i64 e4))], []⟩) (fun b0 n2 size3 => K (.goto 0) ⟨[(0, .pv (.typ (.li_u8 b0))), (2, .pv (.int .u64 n2)), (3, .pv (.int .i64 size3))], []⟩) b0 n2 size3 := by kernel_rfl
theorem varint_Get_j1_ok0 {ρ : Type} (k : Nat) : JoinOK UX (varint_Get_cfg (ρ := ρ) k) (varint_Get_G k) (varint_Get_J.getD 0 .skip) 1 (varint_Get_j1_s k) := by
  intro s K r h
  obtain ⟨env, hp⟩ := s
  unfold varint_Get_j1_s at h
  replace h := popS_inv h; obtain ⟨v1, e2, rfl, h⟩ := h
  replace h := as_li_u8_inv h; obtain ⟨b0, rfl, h⟩ := h
  replace h := popS_inv h; obtain ⟨v3, e4, rfl, h⟩ := h
  replace h := asI_inv h; obtain ⟨n2, rfl, h⟩ := h
  replace h := popS_inv h; obtain ⟨v5, e6, rfl, h⟩ := h
  replace h := asI_inv h; obtain ⟨size3, rfl, h⟩ := h
  replace h := popN_inv h; obtain ⟨rfl, h⟩ := h
  replace h := popN_inv h; obtain ⟨rfl, h⟩ := h
  exact (varint_Get_j1_eq0 k K b0 n2 size3).trans h
noncomputable def varint_Get_g0_f0 {ρ : Type} (k : Nat) : Run UX ρ := (suff UX (varint_Get_cfg k) (varint_Get_G k) (varint_Get_S.getD 0 .skip) 0).getD fun _ _ => none
theorem varint_Get_g0_eq0 {ρ : Type} (k : Nat) (K : Ex → St UU → Option ρ) : ∀ (n : Nat) (v : (List Int) × Int × Int), scopeN UX (fun l s => s.at (varint_Get_cfg (ρ := ρ) k).live (varint_Get_cfg (ρ := ρ) k).boxes (some ((varint_Get_cfg (ρ := ρ) k).labelR l))) (suff UX (varint_Get_cfg k) (varint_Get_G k) (varint_Get_S.getD 0 .skip)) (fun l => ((varint_Get_cfg (ρ := ρ) k).labels l).isSome) n (varint_Get_g0_f0 k) ⟨[(0, .pv (.typ (.li_u8 v.1))), (2, .pv (.int .u64 v.2.1)), (3, .pv (.int .i64 v.2.2))], []⟩ (nrmK UX (varint_Get_cfg k) ((varint_Get_cfg (ρ := ρ) k).labelR 0) K) = varint_Get_g0 k (fun n2 size3 e4 => K .ret ⟨[(2, .pv (.int .u64 n2)), (3, .pv (.int .i64 size3)), (4, .pv (.int .i64 e4))], []⟩) n v.1 v.2.1 v.2.2 :=
  scope_rec (X := UX) (fun _ => varint_Get_g0_f0 k) (fun v => ⟨[(0, .pv (.typ (.li_u8 v.1))), (2, .pv (.int .u64 v.2.1)), (3, .pv (.int .i64 v.2.2))], []⟩) (fun rec v => varint_Get_g0_b k (fun n2 size3 e4 => K .ret ⟨[(2, .pv (.int .u64 n2)), (3, .pv (.int .i64 size3)), (4, .pv (.int .i64 e4))], []⟩) (fun b0 n2 size3 => rec (b0, n2, size3)) v.1 v.2.1 v.2.2) (fun n v => varint_Get_g0 k (fun n2 size3 e4 => K .ret ⟨[(2, .pv (.int .u64 n2)), (3, .pv (.int .i64 size3)), (4, .pv (.int .i64 e4))], []⟩) n v.1 v.2.1 v.2.2) (fun n v => by kernel_rfl) (fun _ => rfl) (fun _ _ => rfl)
theorem varint_Get_g0_ok0 {ρ : Type} (k : Nat) : LabOK UX (varint_Get_cfg (ρ := ρ) k) (varint_Get_G k) (varint_Get_S.getD 0 .skip) 0 (varint_Get_g0_s k) := by
  intro f hf s K r h
  have hf : varint_Get_g0_f0 k = f := by unfold varint_Get_g0_f0; rw [hf]; rfl
  subst hf
  obtain ⟨env, hp⟩ := s
  unfold varint_Get_g0_s at h
  replace h := popS_inv h; obtain ⟨v1, e2, rfl, h⟩ := h
  replace h := as_li_u8_inv h; obtain ⟨b0, rfl, h⟩ := h
  replace h := popS_inv h; obtain ⟨v3, e4, rfl, h⟩ := h
  replace h := asI_inv h; obtain ⟨n2, rfl, h⟩ := h
  replace h := popS_inv h; obtain ⟨v5, e6, rfl, h⟩ := h
  replace h := asI_inv h; obtain ⟨size3, rfl, h⟩ := h
  replace h := popN_inv h; obtain ⟨rfl, h⟩ := h
  replace h := popN_inv h; obtain ⟨rfl, h⟩ := h
  exact ⟨k, (varint_Get_g0_eq0 k K k (b0, n2, size3)).trans h⟩
theorem varint_Get_cok {ρ : Type} (k : Nat) : COK (varint_Get_cfg (ρ := ρ) k) (varint_Get_G k) varint_Get_code :=
  cok_of (tl := []) (tj := [(1, varint_Get_j1_s k)]) (tb := [(0, varint_Get_g0_s k)]) rfl rfl rfl (nil_all (by kernel_rfl)) (all_nth 1 (by kernel_rfl) ⟨join_case (by kernel_rfl) rfl (varint_Get_j1_ok0 k), trivial⟩) (fun p hp => by
    simp only [List.mem_cons, List.not_mem_nil, or_false] at hp
    subst hp
    · exact all_nth 1 (by kernel_rfl) ⟨varint_Get_g0_ok0 k, trivial⟩)
noncomputable def varint_Get_enc (r : Int × Int × Int) : AV UU := .pv (.tup [.int .u64 r.1, .int .i64 r.2.1, .int .i64 r.2.2])
noncomputable def varint_Get_dec (v : AV UU) (_ : List (List (AV UU))) : Option (Int × Int × Int) :=
asT v fun q1 =>
popA q1 fun p2 q3 =>
asI .u64 (.pv p2) fun r0 =>
popA q3 fun p4 q5 =>
asI .i64 (.pv p4) fun r1 =>
popA q5 fun p6 q7 =>
asI .i64 (.pv p6) fun r2 =>
popN q7 <|
some (r0, r1, r2)
theorem varint_Get_dec_enc (v : AV UU) (b : List (List (AV UU))) (r : Int × Int × Int) (h : varint_Get_dec v b = some r) : v = varint_Get_enc r := by
  unfold varint_Get_dec at h
  replace h := asT_inv h; obtain ⟨q1, rfl, h⟩ := h
  replace h := popA_inv h; obtain ⟨p2, q3, rfl, h⟩ := h
  replace h := asI_inv h; obtain ⟨r0, e, h⟩ := h; cases e
  replace h := popA_inv h; obtain ⟨p4, q5, rfl, h⟩ := h
  replace h := asI_inv h; obtain ⟨r1, e, h⟩ := h; cases e
  replace h := popA_inv h; obtain ⟨p6, q7, rfl, h⟩ := h
  replace h := asI_inv h; obtain ⟨r2, e, h⟩ := h; cases e
  replace h := popN_inv h; obtain ⟨rfl, h⟩ := h
  cases h
  rfl
theorem varint_Get_eq (k : Nat) (b0 : List Int) : bodyK UX (varint_Get_cfg k) (varint_Get_G k) Try.f68 [.pv (.typ (.li_u8 b0))] [] varint_Get_dec = varint_Get k b0 := by kernel_rfl
theorem varint_Get_con (k : Nat) (b0 : List Int) (r : Int × Int × Int) (h : varint_Get k b0 = some r) : Con (X := UX) Try.prog 68 [.pv (.typ (.li_u8 b0))] [] (varint_Get_enc r) [] :=
  con_of_body xok tok Try.func68 varint_Get_body (varint_Get_gok k) rfl (varint_Get_cok k) (of_decide_eq_true (by kernel_rfl)) varint_Get_dec_enc ((varint_Get_eq k b0).trans h)
noncomputable def varint_Get_an {ρ : Type} (k : Nat) : An UX ρ := fun args bx K =>
popA args fun v1 a2 =>
as_li_u8 v1 fun b0 =>
popN a2 <|
popN bx <|
(varint_Get k b0).bind fun r => K (varint_Get_enc r) []
theorem varint_Get_ok {ρ : Type} (k : Nat) : AnsOK Try.prog 68 (varint_Get_an (ρ := ρ) k) := by
  intro args bx K r h
  unfold varint_Get_an at h
  replace h := popA_inv h; obtain ⟨v1, a2, rfl, h⟩ := h
  replace h := as_li_u8_inv h; obtain ⟨b0, rfl, h⟩ := h
  replace h := popN_inv h; obtain ⟨rfl, h⟩ := h
  replace h := popN_inv h; obtain ⟨rfl, h⟩ := h
  replace h := bind_inv h
  obtain ⟨x, hx, h⟩ := h
  exact ⟨there_of Try.func68 (by kernel_rfl) varint_Get_body, _, _, h, varint_Get_con k b0 x hx⟩

/-! slices.Clone[[]byte,byte] -/
noncomputable def slices_Clone_byte_byte__code : Code := match Try.f77.body with | some c => c | none => .skip
theorem slices_Clone_byte_byte__body : Try.f77.body = some slices_Clone_byte_byte__code := by kernel_rfl
noncomputable def slices_Clone_byte_byte__G {ρ : Type} (k : Nat) : Ans UX ρ := gnil
theorem slices_Clone_byte_byte__gok {ρ : Type} (k : Nat) : GOK Try.prog (slices_Clone_byte_byte__G (ρ := ρ) k) := gok_nil
noncomputable def slices_Clone_byte_byte__cfg {ρ : Type} (k : Nat) : Cfg UX ρ where
  live i := (assoc [(0, [0]), (1, [0]), (2, []), (3, [0])] i).getD []
  boxes i := (assoc [(0, []), (1, []), (2, []), (3, [])] i).getD []
  tk i := (assoc [(1000000, [2])] i).getD []
  n := 8
  labelR l := (assoc [] l).getD 0
  loops := assoc []
  labels := assoc []
  joins := assoc []
  xl i e := match e with
    | .nxt => assoc [] i
    | .ret => assoc [] i
    | .exit j => (assoc [] i).bind fun l => assoc l j
    | .goto j => (assoc [] i).bind fun l => assoc l j
noncomputable def slices_Clone_byte_byte__L : List Code := selI [] (loopsOf slices_Clone_byte_byte__code)
noncomputable def slices_Clone_byte_byte__J : List Code := selI [] (joinsOf slices_Clone_byte_byte__code)
noncomputable def slices_Clone_byte_byte__S : List Code := scopesOf slices_Clone_byte_byte__code
theorem slices_Clone_byte_byte__cok {ρ : Type} (k : Nat) : COK (slices_Clone_byte_byte__cfg (ρ := ρ) k) (slices_Clone_byte_byte__G k) slices_Clone_byte_byte__code :=
  cok_of (tl := []) (tj := []) (tb := []) rfl rfl rfl (nil_all (by kernel_rfl)) (nil_all (by kernel_rfl)) (fun p hp => by cases hp)
noncomputable def slices_Clone_byte_byte__enc (r : (List Int)) : AV UU := .own (.li_u8 r)
noncomputable def slices_Clone_byte_byte__dec (v : AV UU) (_ : List (List (AV UU))) : Option (List Int) :=
asO_li_u8 v fun r =>
some r
theorem slices_Clone_byte_byte__dec_enc (v : AV UU) (b : List (List (AV UU))) (r : (List Int)) (h : slices_Clone_byte_byte__dec v b = some r) : v = slices_Clone_byte_byte__enc r := by
  unfold slices_Clone_byte_byte__dec at h
  replace h := asO_li_u8_inv h; obtain ⟨r, rfl, h⟩ := h
  cases h
  rfl
theorem slices_Clone_byte_byte__eq (k : Nat) (s0 : List Int) : bodyK UX (slices_Clone_byte_byte__cfg k) (slices_Clone_byte_byte__G k) Try.f77 [.pv (.typ (.li_u8 s0))] [] slices_Clone_byte_byte__dec = slices_Clone_byte_byte_ k s0 := by kernel_rfl
theorem slices_Clone_byte_byte__con (k : Nat) (s0 : List Int) (r : (List Int)) (h : slices_Clone_byte_byte_ k s0 = some r) : Con (X := UX) Try.prog 77 [.pv (.typ (.li_u8 s0))] [] (slices_Clone_byte_byte__enc r) [] :=
  con_of_body xok tok Try.func77 slices_Clone_byte_byte__body (slices_Clone_byte_byte__gok k) rfl (slices_Clone_byte_byte__cok k) (of_decide_eq_true (by kernel_rfl)) slices_Clone_byte_byte__dec_enc ((slices_Clone_byte_byte__eq k s0).trans h)
noncomputable def slices_Clone_byte_byte__an {ρ : Type} (k : Nat) : An UX ρ := fun args bx K =>
popA args fun v1 a2 =>
as_li_u8 v1 fun s0 =>
popN a2 <|
popN bx <|
(slices_Clone_byte_byte_ k s0).bind fun r => K (slices_Clone_byte_byte__enc r) []
theorem slices_Clone_byte_byte__ok {ρ : Type} (k : Nat) : AnsOK Try.prog 77 (slices_Clone_byte_byte__an (ρ := ρ) k) := by
  intro args bx K r h
  unfold slices_Clone_byte_byte__an at h
  replace h := popA_inv h; obtain ⟨v1, a2, rfl, h⟩ := h
  replace h := as_li_u8_inv h; obtain ⟨s0, rfl, h⟩ := h
  replace h := popN_inv h; obtain ⟨rfl, h⟩ := h
  replace h := popN_inv h; obtain ⟨rfl, h⟩ := h
  replace h := bind_inv h
  obtain ⟨x, hx, h⟩ := h
  exact ⟨there_of Try.func77 (by kernel_rfl) slices_Clone_byte_byte__body, _, _, h, slices_Clone_byte_byte__con k s0 x hx⟩

/-! cadastre/node.cell -/
noncomputable def node_cell_code : Code := match Try.f59.body with | some c => c | none => .skip
theorem node_cell_body : Try.f59.body = some node_cell_code := by kernel_rfl
noncomputable def node_cell_G {ρ : Type} (k : Nat) : Ans UX ρ := gk 68 (varint_Get_an k) (gk 77 (slices_Clone_byte_byte__an k) (gnil))
theorem node_cell_gok {ρ : Type} (k : Nat) : GOK Try.prog (node_cell_G (ρ := ρ) k) := gok_cons (varint_Get_ok k) (gok_cons (slices_Clone_byte_byte__ok k) (gok_nil))
noncomputable def node_cell_j4_s {ρ : Type} (k : Nat) : Run UX ρ := fun s K =>
popS 0 s.env fun v1 e2 =>
as_li_u8 v1 fun p0 =>
popS 1 e2 fun v3 e4 =>
asI .i64 v3 fun at1 =>
popS 6 e4 fun v5 e6 =>
asI .u64 v5 fun n6 =>
popS 7 e6 fun v7 e8 =>
asI .i64 v7 fun size7 =>
popN e8 <|
popN s.hp <|
node_cell_j4 k (fun c4 end5 => K .ret ⟨[(4, .own (.li_u8 c4)), (5, .pv (.int .i64 end5))], []⟩) p0 at1 n6 size7
noncomputable def node_cell_cfg {ρ : Type} (k : Nat) : Cfg UX ρ where
  live i := (assoc [(0, [0, 1]), (1, [0, 1]), (2, [0, 1, 6, 7, 8]), (3, []), (4, [0, 1, 6, 7]), (5, [0, 1, 5, 7])] i).getD []
  boxes i := (assoc [(0, []), (1, []), (2, []), (3, []), (4, []), (5, [])] i).getD []
  tk i := (assoc [(1000000, [4])] i).getD []
  n := 44
  labelR l := (assoc [] l).getD 0
  loops := assoc []
  labels := assoc []
  joins := assoc [(4, node_cell_j4_s k)]
  xl i e := match e with
    | .nxt => assoc [] i
    | .ret => assoc [(4, ([4, 5], []))] i
    | .exit j => (assoc [] i).bind fun l => assoc l j
    | .goto j => (assoc [] i).bind fun l => assoc l j
noncomputable def node_cell_L : List Code := selI [] (loopsOf node_cell_code)
noncomputable def node_cell_J : List Code := selI [4] (joinsOf node_cell_code)
noncomputable def node_cell_S : List Code := scopesOf node_cell_code
theorem node_cell_j4_eq0 {ρ : Type} (k : Nat) (K : Ex → St UU → Option ρ) (p0 : List Int) (at1 : Int) (n6 : Int) (size7 : Int) : exec UX (node_cell_cfg k) (node_cell_G k) (node_cell_J.getD 0 .skip) ⟨[(0, .pv (.typ (.li_u8 p0))), (1, .pv (.int .i64 at1)), (6, .pv (.int .u64 n6)), (7, .pv (.int .i64 size7))], []⟩ (nrmK UX (node_cell_cfg k) 4 K) = node_cell_j4 k (fun c4 end5 => K .ret ⟨[(4, .own (.li_u8 c4)), (5, .pv (.int .i64 end5))], []⟩) p0 at1 n6 size7 := by kernel_rfl
theorem node_cell_j4_ok0 {ρ : Type} (k : Nat) : JoinOK UX (node_cell_cfg (ρ := ρ) k) (node_cell_G k) (node_cell_J.getD 0 .skip) 4 (node_cell_j4_s k) := by
  intro s K r h
  obtain ⟨env, hp⟩ := s
  unfold node_cell_j4_s at h
  replace h := popS_inv h; obtain ⟨v1, e2, rfl, h⟩ := h
  replace h := as_li_u8_inv h; obtain ⟨p0, rfl, h⟩ := h
  replace h := popS_inv h; obtain ⟨v3, e4, rfl, h⟩ := h
  replace h := asI_inv h; obtain ⟨at1, rfl, h⟩ := h
  replace h := popS_inv h; obtain ⟨v5, e6, rfl, h⟩ := h
  replace h := asI_inv h; obtain ⟨n6, rfl, h⟩ := h
  replace h := popS_inv h; obtain ⟨v7, e8, rfl, h⟩ := h
  replace h := asI_inv h; obtain ⟨size7, rfl, h⟩ := h
  replace h := popN_inv h; obtain ⟨rfl, h⟩ := h
  replace h := popN_inv h; obtain ⟨rfl, h⟩ := h
  exact (node_cell_j4_eq0 k K p0 at1 n6 size7).trans h
theorem node_cell_cok {ρ : Type} (k : Nat) : COK (node_cell_cfg (ρ := ρ) k) (node_cell_G k) node_cell_code :=
  cok_of (tl := []) (tj := [(4, node_cell_j4_s k)]) (tb := []) rfl rfl rfl (nil_all (by kernel_rfl)) (all_nth 1 (by kernel_rfl) ⟨join_case (by kernel_rfl) rfl (node_cell_j4_ok0 k), trivial⟩) (fun p hp => by cases hp)
noncomputable def node_cell_enc (r : (List Int) × Int) : AV UU := .pv (.tup [.typ (.li_u8 r.1), .int .i64 r.2])
noncomputable def node_cell_dec (v : AV UU) (_ : List (List (AV UU))) : Option ((List Int) × Int) :=
asT v fun q1 =>
popA q1 fun p2 q3 =>
as_li_u8 (.pv p2) fun r0 =>
popA q3 fun p4 q5 =>
asI .i64 (.pv p4) fun r1 =>
popN q5 <|
some (r0, r1)
theorem node_cell_dec_enc (v : AV UU) (b : List (List (AV UU))) (r : (List Int) × Int) (h : node_cell_dec v b = some r) : v = node_cell_enc r := by
  unfold node_cell_dec at h
  replace h := asT_inv h; obtain ⟨q1, rfl, h⟩ := h
  replace h := popA_inv h; obtain ⟨p2, q3, rfl, h⟩ := h
  replace h := as_li_u8_inv h; obtain ⟨r0, e, h⟩ := h; cases e
  replace h := popA_inv h; obtain ⟨p4, q5, rfl, h⟩ := h
  replace h := asI_inv h; obtain ⟨r1, e, h⟩ := h; cases e
  replace h := popN_inv h; obtain ⟨rfl, h⟩ := h
  cases h
  rfl
theorem node_cell_eq (k : Nat) (p0 : List Int) (at1 : Int) : bodyK UX (node_cell_cfg k) (node_cell_G k) Try.f59 [.pv (.typ (.li_u8 p0)), .pv (.int .i64 at1)] [] node_cell_dec = node_cell k p0 at1 := by kernel_rfl
theorem node_cell_con (k : Nat) (p0 : List Int) (at1 : Int) (r : (List Int) × Int) (h : node_cell k p0 at1 = some r) : Con (X := UX) Try.prog 59 [.pv (.typ (.li_u8 p0)), .pv (.int .i64 at1)] [] (node_cell_enc r) [] :=
  con_of_body xok tok Try.func59 node_cell_body (node_cell_gok k) rfl (node_cell_cok k) (of_decide_eq_true (by kernel_rfl)) node_cell_dec_enc ((node_cell_eq k p0 at1).trans h)
noncomputable def node_cell_an {ρ : Type} (k : Nat) : An UX ρ := fun args bx K =>
popA args fun v1 a2 =>
as_li_u8 v1 fun p0 =>
popA a2 fun v3 a4 =>
asI .i64 v3 fun at1 =>
popN a4 <|
popN bx <|
(node_cell k p0 at1).bind fun r => K (node_cell_enc r) []
theorem node_cell_ok {ρ : Type} (k : Nat) : AnsOK Try.prog 59 (node_cell_an (ρ := ρ) k) := by
  intro args bx K r h
  unfold node_cell_an at h
  replace h := popA_inv h; obtain ⟨v1, a2, rfl, h⟩ := h
  replace h := as_li_u8_inv h; obtain ⟨p0, rfl, h⟩ := h
  replace h := popA_inv h; obtain ⟨v3, a4, rfl, h⟩ := h
  replace h := asI_inv h; obtain ⟨at1, rfl, h⟩ := h
  replace h := popN_inv h; obtain ⟨rfl, h⟩ := h
  replace h := popN_inv h; obtain ⟨rfl, h⟩ := h
  replace h := bind_inv h
  obtain ⟨x, hx, h⟩ := h
  exact ⟨there_of Try.func59 (by kernel_rfl) node_cell_body, _, _, h, node_cell_con k p0 at1 x hx⟩

/-! slices.Index[[]bool,bool] -/
noncomputable def slices_Index_bool_bool__code : Code := match Try.f78.body with | some c => c | none => .skip
theorem slices_Index_bool_bool__body : Try.f78.body = some slices_Index_bool_bool__code := by kernel_rfl
noncomputable def slices_Index_bool_bool__G {ρ : Type} (k : Nat) : Ans UX ρ := gnil
theorem slices_Index_bool_bool__gok {ρ : Type} (k : Nat) : GOK Try.prog (slices_Index_bool_bool__G (ρ := ρ) k) := gok_nil
noncomputable def slices_Index_bool_bool__l2_s {ρ : Type} (k : Nat) : Run UX ρ := fun s K =>
popS 0 s.env fun v1 e2 =>
as_lb v1 fun s0 =>
popS 1 e2 fun v3 e4 =>
asB v3 fun v1 =>
popS 7 e4 fun v5 e6 =>
asI .i64 v5 fun t7 =>
popS 8 e6 fun v7 e8 =>
asI .i64 v7 fun t8 =>
popN e8 <|
popN s.hp <|
slices_Index_bool_bool__l2 k (fun t4 => K .ret ⟨[(4, .pv (.int .i64 t4))], []⟩) (K (.exit 0) ⟨[], []⟩) k s0 v1 t7 t8
noncomputable def slices_Index_bool_bool__cfg {ρ : Type} (k : Nat) : Cfg UX ρ where
  live i := (assoc [(0, [0, 1]), (1, [0, 1]), (2, [0, 1, 7, 8]), (3, [0, 1, 7, 8]), (4, [0, 1, 5, 7, 8]), (5, [5]), (6, [0, 1, 7, 8]), (7, [])] i).getD []
  boxes i := (assoc [(0, []), (1, []), (2, []), (3, []), (4, []), (5, []), (6, []), (7, [])] i).getD []
  tk i := (assoc [] i).getD []
  n := 19
  labelR l := (assoc [] l).getD 0
  loops := assoc [(2, slices_Index_bool_bool__l2_s k)]
  labels := assoc []
  joins := assoc []
  xl i e := match e with
    | .nxt => assoc [] i
    | .ret => assoc [(2, ([4], []))] i
    | .exit j => (assoc [(2, [(0, ([], []))])] i).bind fun l => assoc l j
    | .goto j => (assoc [] i).bind fun l => assoc l j
noncomputable def slices_Index_bool_bool__L : List Code := selI [2] (loopsOf slices_Index_bool_bool__code)
noncomputable def slices_Index_bool_bool__J : List Code := selI [] (joinsOf slices_Index_bool_bool__code)
noncomputable def slices_Index_bool_bool__S : List Code := scopesOf slices_Index_bool_bool__code
theorem slices_Index_bool_bool__l2_eq0 {ρ : Type} (k : Nat) (K : Ex → St UU → Option ρ) : ∀ (n : Nat) (v : (List Bool) × Bool × Int × Int), iterK UX (fun s => s.at (slices_Index_bool_bool__cfg (ρ := ρ) k).live (slices_Index_bool_bool__cfg (ρ := ρ) k).boxes (some 2)) (exec UX (slices_Index_bool_bool__cfg k) (slices_Index_bool_bool__G k) (slices_Index_bool_bool__L.getD 0 .skip)) n ⟨[(0, .pv (.typ (.lb v.1))), (1, .pv (.bool v.2.1)), (7, .pv (.int .i64 v.2.2.1)), (8, .pv (.int .i64 v.2.2.2))], []⟩ (nrmK UX (slices_Index_bool_bool__cfg k) 2 K) = slices_Index_bool_bool__l2 k (fun t4 => K .ret ⟨[(4, .pv (.int .i64 t4))], []⟩) (K (.exit 0) ⟨[], []⟩) n v.1 v.2.1 v.2.2.1 v.2.2.2 :=
  iter_rec (X := UX) (fun v => ⟨[(0, .pv (.typ (.lb v.1))), (1, .pv (.bool v.2.1)), (7, .pv (.int .i64 v.2.2.1)), (8, .pv (.int .i64 v.2.2.2))], []⟩) (fun rec v => slices_Index_bool_bool__l2_b k (fun t4 => K .ret ⟨[(4, .pv (.int .i64 t4))], []⟩) (K (.exit 0) ⟨[], []⟩) (fun s0 v1 t7 t8 => rec (s0, v1, t7, t8)) v.1 v.2.1 v.2.2.1 v.2.2.2) (fun n v => slices_Index_bool_bool__l2 k (fun t4 => K .ret ⟨[(4, .pv (.int .i64 t4))], []⟩) (K (.exit 0) ⟨[], []⟩) n v.1 v.2.1 v.2.2.1 v.2.2.2) (fun n v => by kernel_rfl) (fun _ => rfl) (fun _ _ => rfl)
theorem slices_Index_bool_bool__l2_ok0 {ρ : Type} (k : Nat) : IterOK UX (slices_Index_bool_bool__cfg (ρ := ρ) k) (slices_Index_bool_bool__G k) (slices_Index_bool_bool__L.getD 0 .skip) 2 (slices_Index_bool_bool__l2_s k) := by
  intro s K r h
  obtain ⟨env, hp⟩ := s
  unfold slices_Index_bool_bool__l2_s at h
  replace h := popS_inv h; obtain ⟨v1, e2, rfl, h⟩ := h
  replace h := as_lb_inv h; obtain ⟨s0, rfl, h⟩ := h
  replace h := popS_inv h; obtain ⟨v3, e4, rfl, h⟩ := h
  replace h := asB_inv h; obtain ⟨v1, rfl, h⟩ := h
  replace h := popS_inv h; obtain ⟨v5, e6, rfl, h⟩ := h
  replace h := asI_inv h; obtain ⟨t7, rfl, h⟩ := h
  replace h := popS_inv h; obtain ⟨v7, e8, rfl, h⟩ := h
  replace h := asI_inv h; obtain ⟨t8, rfl, h⟩ := h
  replace h := popN_inv h; obtain ⟨rfl, h⟩ := h
  replace h := popN_inv h; obtain ⟨rfl, h⟩ := h
  exact ⟨k, (slices_Index_bool_bool__l2_eq0 k K k (s0, v1, t7, t8)).trans h⟩
theorem slices_Index_bool_bool__cok {ρ : Type} (k : Nat) : COK (slices_Index_bool_bool__cfg (ρ := ρ) k) (slices_Index_bool_bool__G k) slices_Index_bool_bool__code :=
  cok_of (tl := [(2, slices_Index_bool_bool__l2_s k)]) (tj := []) (tb := []) rfl rfl rfl (all_nth 1 (by kernel_rfl) ⟨iter_case (by kernel_rfl) rfl (slices_Index_bool_bool__l2_ok0 k), trivial⟩) (nil_all (by kernel_rfl)) (fun p hp => by cases hp)
noncomputable def slices_Index_bool_bool__enc (r : Int) : AV UU := .pv (.int .i64 r)
noncomputable def slices_Index_bool_bool__dec (v : AV UU) (_ : List (List (AV UU))) : Option Int :=
asI .i64 v fun r0 =>
some r0
theorem slices_Index_bool_bool__dec_enc (v : AV UU) (b : List (List (AV UU))) (r : Int) (h : slices_Index_bool_bool__dec v b = some r) : v = slices_Index_bool_bool__enc r := by
  unfold slices_Index_bool_bool__dec at h
  replace h := asI_inv h; obtain ⟨r0, rfl, h⟩ := h
  cases h
  rfl
theorem slices_Index_bool_bool__eq (k : Nat) (s0 : List Bool) (v1 : Bool) : bodyK UX (slices_Index_bool_bool__cfg k) (slices_Index_bool_bool__G k) Try.f78 [.pv (.typ (.lb s0)), .pv (.bool v1)] [] slices_Index_bool_bool__dec = slices_Index_bool_bool_ k s0 v1 := by kernel_rfl
theorem slices_Index_bool_bool__con (k : Nat) (s0 : List Bool) (v1 : Bool) (r : Int) (h : slices_Index_bool_bool_ k s0 v1 = some r) : Con (X := UX) Try.prog 78 [.pv (.typ (.lb s0)), .pv (.bool v1)] [] (slices_Index_bool_bool__enc r) [] :=
  con_of_body xok tok Try.func78 slices_Index_bool_bool__body (slices_Index_bool_bool__gok k) rfl (slices_Index_bool_bool__cok k) (of_decide_eq_true (by kernel_rfl)) slices_Index_bool_bool__dec_enc ((slices_Index_bool_bool__eq k s0 v1).trans h)
noncomputable def slices_Index_bool_bool__an {ρ : Type} (k : Nat) : An UX ρ := fun args bx K =>
popA args fun v1 a2 =>
as_lb v1 fun s0 =>
popA a2 fun v3 a4 =>
asB v3 fun v1 =>
popN a4 <|
popN bx <|
(slices_Index_bool_bool_ k s0 v1).bind fun r => K (slices_Index_bool_bool__enc r) []
theorem slices_Index_bool_bool__ok {ρ : Type} (k : Nat) : AnsOK Try.prog 78 (slices_Index_bool_bool__an (ρ := ρ) k) := by
  intro args bx K r h
  unfold slices_Index_bool_bool__an at h
  replace h := popA_inv h; obtain ⟨v1, a2, rfl, h⟩ := h
  replace h := as_lb_inv h; obtain ⟨s0, rfl, h⟩ := h
  replace h := popA_inv h; obtain ⟨v3, a4, rfl, h⟩ := h
  replace h := asB_inv h; obtain ⟨v1, rfl, h⟩ := h
  replace h := popN_inv h; obtain ⟨rfl, h⟩ := h
  replace h := popN_inv h; obtain ⟨rfl, h⟩ := h
  replace h := bind_inv h
  obtain ⟨x, hx, h⟩ := h
  exact ⟨there_of Try.func78 (by kernel_rfl) slices_Index_bool_bool__body, _, _, h, slices_Index_bool_bool__con k s0 v1 x hx⟩

/-! slices.Contains[[]bool,bool] -/
noncomputable def slices_Contains_bool_bool__code : Code := match Try.f60.body with | some c => c | none => .skip
theorem slices_Contains_bool_bool__body : Try.f60.body = some slices_Contains_bool_bool__code := by kernel_rfl
noncomputable def slices_Contains_bool_bool__G {ρ : Type} (k : Nat) : Ans UX ρ := gk 78 (slices_Index_bool_bool__an k) (gnil)
theorem slices_Contains_bool_bool__gok {ρ : Type} (k : Nat) : GOK Try.prog (slices_Contains_bool_bool__G (ρ := ρ) k) := gok_cons (slices_Index_bool_bool__ok k) (gok_nil)
noncomputable def slices_Contains_bool_bool__cfg {ρ : Type} (k : Nat) : Cfg UX ρ where
  live i := (assoc [(0, [0, 1]), (1, [0, 1])] i).getD []
  boxes i := (assoc [(0, []), (1, [])] i).getD []
  tk i := (assoc [] i).getD []
  n := 9
  labelR l := (assoc [] l).getD 0
  loops := assoc []
  labels := assoc []
  joins := assoc []
  xl i e := match e with
    | .nxt => assoc [] i
    | .ret => assoc [] i
    | .exit j => (assoc [] i).bind fun l => assoc l j
    | .goto j => (assoc [] i).bind fun l => assoc l j
noncomputable def slices_Contains_bool_bool__L : List Code := selI [] (loopsOf slices_Contains_bool_bool__code)
noncomputable def slices_Contains_bool_bool__J : List Code := selI [] (joinsOf slices_Contains_bool_bool__code)
noncomputable def slices_Contains_bool_bool__S : List Code := scopesOf slices_Contains_bool_bool__code
theorem slices_Contains_bool_bool__cok {ρ : Type} (k : Nat) : COK (slices_Contains_bool_bool__cfg (ρ := ρ) k) (slices_Contains_bool_bool__G k) slices_Contains_bool_bool__code :=
  cok_of (tl := []) (tj := []) (tb := []) rfl rfl rfl (nil_all (by kernel_rfl)) (nil_all (by kernel_rfl)) (fun p hp => by cases hp)
noncomputable def slices_Contains_bool_bool__enc (r : Bool) : AV UU := .pv (.bool r)
noncomputable def slices_Contains_bool_bool__dec (v : AV UU) (_ : List (List (AV UU))) : Option Bool :=
asB v fun r0 =>
some r0
theorem slices_Contains_bool_bool__dec_enc (v : AV UU) (b : List (List (AV UU))) (r : Bool) (h : slices_Contains_bool_bool__dec v b = some r) : v = slices_Contains_bool_bool__enc r := by
  unfold slices_Contains_bool_bool__dec at h
  replace h := asB_inv h; obtain ⟨r0, rfl, h⟩ := h
  cases h
  rfl
theorem slices_Contains_bool_bool__eq (k : Nat) (s0 : List Bool) (v1 : Bool) : bodyK UX (slices_Contains_bool_bool__cfg k) (slices_Contains_bool_bool__G k) Try.f60 [.pv (.typ (.lb s0)), .pv (.bool v1)] [] slices_Contains_bool_bool__dec = slices_Contains_bool_bool_ k s0 v1 := by kernel_rfl
theorem slices_Contains_bool_bool__con (k : Nat) (s0 : List Bool) (v1 : Bool) (r : Bool) (h : slices_Contains_bool_bool_ k s0 v1 = some r) : Con (X := UX) Try.prog 60 [.pv (.typ (.lb s0)), .pv (.bool v1)] [] (slices_Contains_bool_bool__enc r) [] :=
  con_of_body xok tok Try.func60 slices_Contains_bool_bool__body (slices_Contains_bool_bool__gok k) rfl (slices_Contains_bool_bool__cok k) (of_decide_eq_true (by kernel_rfl)) slices_Contains_bool_bool__dec_enc ((slices_Contains_bool_bool__eq k s0 v1).trans h)
noncomputable def slices_Contains_bool_bool__an {ρ : Type} (k : Nat) : An UX ρ := fun args bx K =>
popA args fun v1 a2 =>
as_lb v1 fun s0 =>
popA a2 fun v3 a4 =>
asB v3 fun v1 =>
popN a4 <|
popN bx <|
(slices_Contains_bool_bool_ k s0 v1).bind fun r => K (slices_Contains_bool_bool__enc r) []
theorem slices_Contains_bool_bool__ok {ρ : Type} (k : Nat) : AnsOK Try.prog 60 (slices_Contains_bool_bool__an (ρ := ρ) k) := by
  intro args bx K r h
  unfold slices_Contains_bool_bool__an at h
  replace h := popA_inv h; obtain ⟨v1, a2, rfl, h⟩ := h
  replace h := as_lb_inv h; obtain ⟨s0, rfl, h⟩ := h
  replace h := popA_inv h; obtain ⟨v3, a4, rfl, h⟩ := h
  replace h := asB_inv h; obtain ⟨v1, rfl, h⟩ := h
  replace h := popN_inv h; obtain ⟨rfl, h⟩ := h
  replace h := popN_inv h; obtain ⟨rfl, h⟩ := h
  replace h := bind_inv h
  obtain ⟨x, hx, h⟩ := h
  exact ⟨there_of Try.func60 (by kernel_rfl) slices_Contains_bool_bool__body, _, _, h, slices_Contains_bool_bool__con k s0 v1 x hx⟩

/-! cadastre/node.Decode -/
noncomputable def node_Decode_code : Code := match Try.f34.body with | some c => c | none => .skip
theorem node_Decode_body : Try.f34.body = some node_Decode_code := by kernel_rfl
noncomputable def node_Decode_G {ρ : Type} (k : Nat) : Ans UX ρ := gk 59 (node_cell_an k) (gk 60 (slices_Contains_bool_bool__an k) (gnil))
theorem node_Decode_gok {ρ : Type} (k : Nat) : GOK Try.prog (node_Decode_G (ρ := ρ) k) := gok_cons (node_cell_ok k) (gok_cons (slices_Contains_bool_bool__ok k) (gok_nil))
noncomputable def node_Decode_l14_s {ρ : Type} (k : Nat) : Run UX ρ := fun s K =>
popS 0 s.env fun v1 e2 =>
as_li_u8 v1 fun p0 =>
popS 4 e2 fun v3 e4 =>
asO_lli_u8 v3 fun cells4 =>
popS 6 e4 fun v5 e6 =>
asI .i64 v5 fun n6 =>
popS 7 e6 fun v7 e8 =>
asI .i64 v7 fun i7 =>
popS 8 e8 fun v9 e10 =>
asI .i64 v9 fun places8 =>
popS 9 e10 fun v11 e12 =>
asO_lb v11 fun used9 =>
popS 11 e12 fun v13 e14 =>
as_li_u8 v13 fun c11 =>
popS 12 e14 fun v15 e16 =>
asI .i64 v15 fun end12 =>
popS 13 e16 fun v17 e18 =>
asI .i64 v17 fun k13 =>
popN e18 <|
popN s.hp <|
node_Decode_l14 k (fun p0 cells4 n6 i7 places8 used9 c11 => K (.exit 0) ⟨[(0, .pv (.typ (.li_u8 p0))), (4, .own (.lli_u8 cells4)), (6, .pv (.int .i64 n6)), (7, .pv (.int .i64 i7)), (8, .pv (.int .i64 places8)), (9, .own (.lb used9)), (11, .pv (.typ (.li_u8 c11)))], []⟩) k p0 cells4 n6 i7 places8 used9 c11 end12 k13
noncomputable def node_Decode_j13_s {ρ : Type} (k : Nat) : Run UX ρ := fun s K =>
popS 0 s.env fun v1 e2 =>
as_li_u8 v1 fun p0 =>
popS 4 e2 fun v3 e4 =>
asO_lli_u8 v3 fun cells4 =>
popS 6 e4 fun v5 e6 =>
asI .i64 v5 fun n6 =>
popS 7 e6 fun v7 e8 =>
asI .i64 v7 fun i7 =>
popS 8 e8 fun v9 e10 =>
asI .i64 v9 fun places8 =>
popS 9 e10 fun v11 e12 =>
asO_lb v11 fun used9 =>
popS 10 e12 fun v13 e14 =>
asI .i64 v13 fun at10 =>
popS 11 e14 fun v15 e16 =>
as_li_u8 v15 fun c11 =>
popS 12 e16 fun v17 e18 =>
asI .i64 v17 fun end12 =>
popN e18 <|
popN s.hp <|
node_Decode_j13 k (fun p0 cells4 n6 i7 places8 used9 => K (.goto 1) ⟨[(0, .pv (.typ (.li_u8 p0))), (4, .own (.lli_u8 cells4)), (6, .pv (.int .i64 n6)), (7, .pv (.int .i64 i7)), (8, .pv (.int .i64 places8)), (9, .own (.lb used9))], []⟩) p0 cells4 n6 i7 places8 used9 at10 c11 end12
noncomputable def node_Decode_j11_s {ρ : Type} (k : Nat) : Run UX ρ := fun s K =>
popS 0 s.env fun v1 e2 =>
as_li_u8 v1 fun p0 =>
popS 4 e2 fun v3 e4 =>
asO_lli_u8 v3 fun cells4 =>
popS 6 e4 fun v5 e6 =>
asI .i64 v5 fun n6 =>
popS 7 e6 fun v7 e8 =>
asI .i64 v7 fun i7 =>
popS 8 e8 fun v9 e10 =>
asI .i64 v9 fun places8 =>
popS 9 e10 fun v11 e12 =>
asO_lb v11 fun used9 =>
popS 10 e12 fun v13 e14 =>
asI .i64 v13 fun at10 =>
popN e14 <|
popN s.hp <|
node_Decode_j11 k (K (.goto 0) ⟨[], []⟩) (fun p0 cells4 n6 i7 places8 used9 => K (.goto 1) ⟨[(0, .pv (.typ (.li_u8 p0))), (4, .own (.lli_u8 cells4)), (6, .pv (.int .i64 n6)), (7, .pv (.int .i64 i7)), (8, .pv (.int .i64 places8)), (9, .own (.lb used9))], []⟩) p0 cells4 n6 i7 places8 used9 at10
noncomputable def node_Decode_j8_s {ρ : Type} (k : Nat) : Run UX ρ := fun s K =>
popS 0 s.env fun v1 e2 =>
as_li_u8 v1 fun p0 =>
popS 4 e2 fun v3 e4 =>
asO_lli_u8 v3 fun cells4 =>
popS 6 e4 fun v5 e6 =>
asI .i64 v5 fun n6 =>
popS 7 e6 fun v7 e8 =>
asI .i64 v7 fun i7 =>
popS 8 e8 fun v9 e10 =>
asI .i64 v9 fun places8 =>
popS 9 e10 fun v11 e12 =>
asO_lb v11 fun used9 =>
popN e12 <|
popN s.hp <|
node_Decode_j8 k (K (.goto 0) ⟨[], []⟩) (fun p0 cells4 n6 i7 places8 used9 => K (.goto 1) ⟨[(0, .pv (.typ (.li_u8 p0))), (4, .own (.lli_u8 cells4)), (6, .pv (.int .i64 n6)), (7, .pv (.int .i64 i7)), (8, .pv (.int .i64 places8)), (9, .own (.lb used9))], []⟩) (fun kind2 next3 cells4 e5 => K .ret ⟨[(2, .pv (.int .i64 kind2)), (3, .pv (.int .i64 next3)), (4, .pv (.typ (.lli_u8 cells4))), (5, .pv (.int .i64 e5))], []⟩) p0 cells4 n6 i7 places8 used9
noncomputable def node_Decode_g1_s {ρ : Type} (k : Nat) : Run UX ρ := fun s K =>
popS 0 s.env fun v1 e2 =>
as_li_u8 v1 fun p0 =>
popS 4 e2 fun v3 e4 =>
asO_lli_u8 v3 fun cells4 =>
popS 6 e4 fun v5 e6 =>
asI .i64 v5 fun n6 =>
popS 7 e6 fun v7 e8 =>
asI .i64 v7 fun i7 =>
popS 8 e8 fun v9 e10 =>
asI .i64 v9 fun places8 =>
popS 9 e10 fun v11 e12 =>
asO_lb v11 fun used9 =>
popN e12 <|
popN s.hp <|
node_Decode_g1 k (fun kind2 next3 cells4 e5 => K .ret ⟨[(2, .pv (.int .i64 kind2)), (3, .pv (.int .i64 next3)), (4, .own (.lli_u8 cells4)), (5, .pv (.int .i64 e5))], []⟩) (fun kind2 next3 cells4 e5 => K .ret ⟨[(2, .pv (.int .i64 kind2)), (3, .pv (.int .i64 next3)), (4, .pv (.typ (.lli_u8 cells4))), (5, .pv (.int .i64 e5))], []⟩) k p0 cells4 n6 i7 places8 used9
noncomputable def node_Decode_cfg {ρ : Type} (k : Nat) : Cfg UX ρ where
  live i := (assoc [(0, [0]), (1, [0, 4]), (2, [0, 4, 7]), (3, [0, 4, 7]), (4, [0, 4, 7]), (5, [0, 4, 6, 7]), (6, [0, 4, 6, 7, 8]), (7, [0, 4, 6, 7, 8]), (8, [0, 4, 6, 7, 8, 9]), (9, [0, 4, 6, 7, 8, 9]), (10, [0, 4, 6, 7, 8, 9, 10]), (11, [0, 4, 6, 7, 8, 9, 10]), (12, [0, 4, 6, 7, 8, 9, 10, 11, 12]), (13, [0, 4, 6, 7, 8, 9, 10, 11, 12]), (14, [0, 4, 6, 7, 8, 9, 11, 12, 13]), (15, [0, 4, 6, 7, 8, 9, 11, 12, 13]), (16, [0, 4, 6, 7, 8, 9, 11, 12, 13]), (17, [0, 4, 6, 7, 8, 9, 11]), (18, [0, 4, 6, 7, 8, 9]), (19, [0, 4]), (20, [])] i).getD []
  boxes i := (assoc [(0, []), (1, []), (2, []), (3, []), (4, []), (5, []), (6, []), (7, []), (8, []), (9, []), (10, []), (11, []), (12, []), (13, []), (14, []), (15, []), (16, []), (17, []), (18, []), (19, []), (20, [])] i).getD []
  tk i := (assoc [(1000000, [4, 9]), (2000019, [4])] i).getD []
  n := 117
  labelR l := (assoc [(1, 8)] l).getD 0
  loops := assoc [(14, node_Decode_l14_s k)]
  labels := assoc [(1, node_Decode_g1_s k)]
  joins := assoc [(13, node_Decode_j13_s k), (11, node_Decode_j11_s k), (8, node_Decode_j8_s k)]
  xl i e := match e with
    | .nxt => assoc [] i
    | .ret => assoc [(8, ([2, 3, 4, 5], [])), (8, ([2, 3, 4, 5], []))] i
    | .exit j => (assoc [(14, [(0, ([0, 4, 6, 7, 8, 9, 11], []))])] i).bind fun l => assoc l j
    | .goto j => (assoc [(13, [(1, ([0, 4, 6, 7, 8, 9], []))]), (11, [(0, ([], [])), (1, ([0, 4, 6, 7, 8, 9], []))]), (8, [(0, ([], [])), (1, ([0, 4, 6, 7, 8, 9], []))])] i).bind fun l => assoc l j
noncomputable def node_Decode_L : List Code := selI [14] (loopsOf node_Decode_code)
noncomputable def node_Decode_J : List Code := selI [13, 11, 8] (joinsOf node_Decode_code)
noncomputable def node_Decode_S : List Code := scopesOf node_Decode_code
theorem node_Decode_l14_eq0 {ρ : Type} (k : Nat) (K : Ex → St UU → Option ρ) : ∀ (n : Nat) (v : (List Int) × (List (List Int)) × Int × Int × Int × (List Bool) × (List Int) × Int × Int), iterK UX (fun s => s.at (node_Decode_cfg (ρ := ρ) k).live (node_Decode_cfg (ρ := ρ) k).boxes (some 14)) (exec UX (node_Decode_cfg k) (node_Decode_G k) (node_Decode_L.getD 0 .skip)) n ⟨[(0, .pv (.typ (.li_u8 v.1))), (4, .own (.lli_u8 v.2.1)), (6, .pv (.int .i64 v.2.2.1)), (7, .pv (.int .i64 v.2.2.2.1)), (8, .pv (.int .i64 v.2.2.2.2.1)), (9, .own (.lb v.2.2.2.2.2.1)), (11, .pv (.typ (.li_u8 v.2.2.2.2.2.2.1))), (12, .pv (.int .i64 v.2.2.2.2.2.2.2.1)), (13, .pv (.int .i64 v.2.2.2.2.2.2.2.2))], []⟩ (nrmK UX (node_Decode_cfg k) 14 K) = node_Decode_l14 k (fun p0 cells4 n6 i7 places8 used9 c11 => K (.exit 0) ⟨[(0, .pv (.typ (.li_u8 p0))), (4, .own (.lli_u8 cells4)), (6, .pv (.int .i64 n6)), (7, .pv (.int .i64 i7)), (8, .pv (.int .i64 places8)), (9, .own (.lb used9)), (11, .pv (.typ (.li_u8 c11)))], []⟩) n v.1 v.2.1 v.2.2.1 v.2.2.2.1 v.2.2.2.2.1 v.2.2.2.2.2.1 v.2.2.2.2.2.2.1 v.2.2.2.2.2.2.2.1 v.2.2.2.2.2.2.2.2 :=
  iter_rec (X := UX) (fun v => ⟨[(0, .pv (.typ (.li_u8 v.1))), (4, .own (.lli_u8 v.2.1)), (6, .pv (.int .i64 v.2.2.1)), (7, .pv (.int .i64 v.2.2.2.1)), (8, .pv (.int .i64 v.2.2.2.2.1)), (9, .own (.lb v.2.2.2.2.2.1)), (11, .pv (.typ (.li_u8 v.2.2.2.2.2.2.1))), (12, .pv (.int .i64 v.2.2.2.2.2.2.2.1)), (13, .pv (.int .i64 v.2.2.2.2.2.2.2.2))], []⟩) (fun rec v => node_Decode_l14_b k (fun p0 cells4 n6 i7 places8 used9 c11 => K (.exit 0) ⟨[(0, .pv (.typ (.li_u8 p0))), (4, .own (.lli_u8 cells4)), (6, .pv (.int .i64 n6)), (7, .pv (.int .i64 i7)), (8, .pv (.int .i64 places8)), (9, .own (.lb used9)), (11, .pv (.typ (.li_u8 c11)))], []⟩) (fun p0 cells4 n6 i7 places8 used9 c11 end12 k13 => rec (p0, cells4, n6, i7, places8, used9, c11, end12, k13)) v.1 v.2.1 v.2.2.1 v.2.2.2.1 v.2.2.2.2.1 v.2.2.2.2.2.1 v.2.2.2.2.2.2.1 v.2.2.2.2.2.2.2.1 v.2.2.2.2.2.2.2.2) (fun n v => node_Decode_l14 k (fun p0 cells4 n6 i7 places8 used9 c11 => K (.exit 0) ⟨[(0, .pv (.typ (.li_u8 p0))), (4, .own (.lli_u8 cells4)), (6, .pv (.int .i64 n6)), (7, .pv (.int .i64 i7)), (8, .pv (.int .i64 places8)), (9, .own (.lb used9)), (11, .pv (.typ (.li_u8 c11)))], []⟩) n v.1 v.2.1 v.2.2.1 v.2.2.2.1 v.2.2.2.2.1 v.2.2.2.2.2.1 v.2.2.2.2.2.2.1 v.2.2.2.2.2.2.2.1 v.2.2.2.2.2.2.2.2) (fun n v => by kernel_rfl) (fun _ => rfl) (fun _ _ => rfl)
theorem node_Decode_l14_ok0 {ρ : Type} (k : Nat) : IterOK UX (node_Decode_cfg (ρ := ρ) k) (node_Decode_G k) (node_Decode_L.getD 0 .skip) 14 (node_Decode_l14_s k) := by
  intro s K r h
  obtain ⟨env, hp⟩ := s
  unfold node_Decode_l14_s at h
  replace h := popS_inv h; obtain ⟨v1, e2, rfl, h⟩ := h
  replace h := as_li_u8_inv h; obtain ⟨p0, rfl, h⟩ := h
  replace h := popS_inv h; obtain ⟨v3, e4, rfl, h⟩ := h
  replace h := asO_lli_u8_inv h; obtain ⟨cells4, rfl, h⟩ := h
  replace h := popS_inv h; obtain ⟨v5, e6, rfl, h⟩ := h
  replace h := asI_inv h; obtain ⟨n6, rfl, h⟩ := h
  replace h := popS_inv h; obtain ⟨v7, e8, rfl, h⟩ := h
  replace h := asI_inv h; obtain ⟨i7, rfl, h⟩ := h
  replace h := popS_inv h; obtain ⟨v9, e10, rfl, h⟩ := h
  replace h := asI_inv h; obtain ⟨places8, rfl, h⟩ := h
  replace h := popS_inv h; obtain ⟨v11, e12, rfl, h⟩ := h
  replace h := asO_lb_inv h; obtain ⟨used9, rfl, h⟩ := h
  replace h := popS_inv h; obtain ⟨v13, e14, rfl, h⟩ := h
  replace h := as_li_u8_inv h; obtain ⟨c11, rfl, h⟩ := h
  replace h := popS_inv h; obtain ⟨v15, e16, rfl, h⟩ := h
  replace h := asI_inv h; obtain ⟨end12, rfl, h⟩ := h
  replace h := popS_inv h; obtain ⟨v17, e18, rfl, h⟩ := h
  replace h := asI_inv h; obtain ⟨k13, rfl, h⟩ := h
  replace h := popN_inv h; obtain ⟨rfl, h⟩ := h
  replace h := popN_inv h; obtain ⟨rfl, h⟩ := h
  exact ⟨k, (node_Decode_l14_eq0 k K k (p0, cells4, n6, i7, places8, used9, c11, end12, k13)).trans h⟩
theorem node_Decode_j8_eq0 {ρ : Type} (k : Nat) (K : Ex → St UU → Option ρ) (p0 : List Int) (cells4 : List (List Int)) (n6 : Int) (i7 : Int) (places8 : Int) (used9 : List Bool) : exec UX (node_Decode_cfg k) (node_Decode_G k) (node_Decode_J.getD 0 .skip) ⟨[(0, .pv (.typ (.li_u8 p0))), (4, .own (.lli_u8 cells4)), (6, .pv (.int .i64 n6)), (7, .pv (.int .i64 i7)), (8, .pv (.int .i64 places8)), (9, .own (.lb used9))], []⟩ (nrmK UX (node_Decode_cfg k) 8 K) = node_Decode_j8 k (K (.goto 0) ⟨[], []⟩) (fun p0 cells4 n6 i7 places8 used9 => K (.goto 1) ⟨[(0, .pv (.typ (.li_u8 p0))), (4, .own (.lli_u8 cells4)), (6, .pv (.int .i64 n6)), (7, .pv (.int .i64 i7)), (8, .pv (.int .i64 places8)), (9, .own (.lb used9))], []⟩) (fun kind2 next3 cells4 e5 => K .ret ⟨[(2, .pv (.int .i64 kind2)), (3, .pv (.int .i64 next3)), (4, .pv (.typ (.lli_u8 cells4))), (5, .pv (.int .i64 e5))], []⟩) p0 cells4 n6 i7 places8 used9 := by kernel_rfl
theorem node_Decode_j8_ok0 {ρ : Type} (k : Nat) : JoinOK UX (node_Decode_cfg (ρ := ρ) k) (node_Decode_G k) (node_Decode_J.getD 0 .skip) 8 (node_Decode_j8_s k) := by
  intro s K r h
  obtain ⟨env, hp⟩ := s
  unfold node_Decode_j8_s at h
  replace h := popS_inv h; obtain ⟨v1, e2, rfl, h⟩ := h
  replace h := as_li_u8_inv h; obtain ⟨p0, rfl, h⟩ := h
  replace h := popS_inv h; obtain ⟨v3, e4, rfl, h⟩ := h
  replace h := asO_lli_u8_inv h; obtain ⟨cells4, rfl, h⟩ := h
  replace h := popS_inv h; obtain ⟨v5, e6, rfl, h⟩ := h
  replace h := asI_inv h; obtain ⟨n6, rfl, h⟩ := h
  replace h := popS_inv h; obtain ⟨v7, e8, rfl, h⟩ := h
  replace h := asI_inv h; obtain ⟨i7, rfl, h⟩ := h
  replace h := popS_inv h; obtain ⟨v9, e10, rfl, h⟩ := h
  replace h := asI_inv h; obtain ⟨places8, rfl, h⟩ := h
  replace h := popS_inv h; obtain ⟨v11, e12, rfl, h⟩ := h
  replace h := asO_lb_inv h; obtain ⟨used9, rfl, h⟩ := h
  replace h := popN_inv h; obtain ⟨rfl, h⟩ := h
  replace h := popN_inv h; obtain ⟨rfl, h⟩ := h
  exact (node_Decode_j8_eq0 k K p0 cells4 n6 i7 places8 used9).trans h
theorem node_Decode_j11_eq1 {ρ : Type} (k : Nat) (K : Ex → St UU → Option ρ) (p0 : List Int) (cells4 : List (List Int)) (n6 : Int) (i7 : Int) (places8 : Int) (used9 : List Bool) (at10 : Int) : exec UX (node_Decode_cfg k) (node_Decode_G k) (node_Decode_J.getD 1 .skip) ⟨[(0, .pv (.typ (.li_u8 p0))), (4, .own (.lli_u8 cells4)), (6, .pv (.int .i64 n6)), (7, .pv (.int .i64 i7)), (8, .pv (.int .i64 places8)), (9, .own (.lb used9)), (10, .pv (.int .i64 at10))], []⟩ (nrmK UX (node_Decode_cfg k) 11 K) = node_Decode_j11 k (K (.goto 0) ⟨[], []⟩) (fun p0 cells4 n6 i7 places8 used9 => K (.goto 1) ⟨[(0, .pv (.typ (.li_u8 p0))), (4, .own (.lli_u8 cells4)), (6, .pv (.int .i64 n6)), (7, .pv (.int .i64 i7)), (8, .pv (.int .i64 places8)), (9, .own (.lb used9))], []⟩) p0 cells4 n6 i7 places8 used9 at10 := by kernel_rfl
theorem node_Decode_j11_ok1 {ρ : Type} (k : Nat) : JoinOK UX (node_Decode_cfg (ρ := ρ) k) (node_Decode_G k) (node_Decode_J.getD 1 .skip) 11 (node_Decode_j11_s k) := by
  intro s K r h
  obtain ⟨env, hp⟩ := s
  unfold node_Decode_j11_s at h
  replace h := popS_inv h; obtain ⟨v1, e2, rfl, h⟩ := h
  replace h := as_li_u8_inv h; obtain ⟨p0, rfl, h⟩ := h
  replace h := popS_inv h; obtain ⟨v3, e4, rfl, h⟩ := h
  replace h := asO_lli_u8_inv h; obtain ⟨cells4, rfl, h⟩ := h
  replace h := popS_inv h; obtain ⟨v5, e6, rfl, h⟩ := h
  replace h := asI_inv h; obtain ⟨n6, rfl, h⟩ := h
  replace h := popS_inv h; obtain ⟨v7, e8, rfl, h⟩ := h
  replace h := asI_inv h; obtain ⟨i7, rfl, h⟩ := h
  replace h := popS_inv h; obtain ⟨v9, e10, rfl, h⟩ := h
  replace h := asI_inv h; obtain ⟨places8, rfl, h⟩ := h
  replace h := popS_inv h; obtain ⟨v11, e12, rfl, h⟩ := h
  replace h := asO_lb_inv h; obtain ⟨used9, rfl, h⟩ := h
  replace h := popS_inv h; obtain ⟨v13, e14, rfl, h⟩ := h
  replace h := asI_inv h; obtain ⟨at10, rfl, h⟩ := h
  replace h := popN_inv h; obtain ⟨rfl, h⟩ := h
  replace h := popN_inv h; obtain ⟨rfl, h⟩ := h
  exact (node_Decode_j11_eq1 k K p0 cells4 n6 i7 places8 used9 at10).trans h
theorem node_Decode_j13_eq2 {ρ : Type} (k : Nat) (K : Ex → St UU → Option ρ) (p0 : List Int) (cells4 : List (List Int)) (n6 : Int) (i7 : Int) (places8 : Int) (used9 : List Bool) (at10 : Int) (c11 : List Int) (end12 : Int) : exec UX (node_Decode_cfg k) (node_Decode_G k) (node_Decode_J.getD 2 .skip) ⟨[(0, .pv (.typ (.li_u8 p0))), (4, .own (.lli_u8 cells4)), (6, .pv (.int .i64 n6)), (7, .pv (.int .i64 i7)), (8, .pv (.int .i64 places8)), (9, .own (.lb used9)), (10, .pv (.int .i64 at10)), (11, .pv (.typ (.li_u8 c11))), (12, .pv (.int .i64 end12))], []⟩ (nrmK UX (node_Decode_cfg k) 13 K) = node_Decode_j13 k (fun p0 cells4 n6 i7 places8 used9 => K (.goto 1) ⟨[(0, .pv (.typ (.li_u8 p0))), (4, .own (.lli_u8 cells4)), (6, .pv (.int .i64 n6)), (7, .pv (.int .i64 i7)), (8, .pv (.int .i64 places8)), (9, .own (.lb used9))], []⟩) p0 cells4 n6 i7 places8 used9 at10 c11 end12 := by kernel_rfl
theorem node_Decode_j13_ok2 {ρ : Type} (k : Nat) : JoinOK UX (node_Decode_cfg (ρ := ρ) k) (node_Decode_G k) (node_Decode_J.getD 2 .skip) 13 (node_Decode_j13_s k) := by
  intro s K r h
  obtain ⟨env, hp⟩ := s
  unfold node_Decode_j13_s at h
  replace h := popS_inv h; obtain ⟨v1, e2, rfl, h⟩ := h
  replace h := as_li_u8_inv h; obtain ⟨p0, rfl, h⟩ := h
  replace h := popS_inv h; obtain ⟨v3, e4, rfl, h⟩ := h
  replace h := asO_lli_u8_inv h; obtain ⟨cells4, rfl, h⟩ := h
  replace h := popS_inv h; obtain ⟨v5, e6, rfl, h⟩ := h
  replace h := asI_inv h; obtain ⟨n6, rfl, h⟩ := h
  replace h := popS_inv h; obtain ⟨v7, e8, rfl, h⟩ := h
  replace h := asI_inv h; obtain ⟨i7, rfl, h⟩ := h
  replace h := popS_inv h; obtain ⟨v9, e10, rfl, h⟩ := h
  replace h := asI_inv h; obtain ⟨places8, rfl, h⟩ := h
  replace h := popS_inv h; obtain ⟨v11, e12, rfl, h⟩ := h
  replace h := asO_lb_inv h; obtain ⟨used9, rfl, h⟩ := h
  replace h := popS_inv h; obtain ⟨v13, e14, rfl, h⟩ := h
  replace h := asI_inv h; obtain ⟨at10, rfl, h⟩ := h
  replace h := popS_inv h; obtain ⟨v15, e16, rfl, h⟩ := h
  replace h := as_li_u8_inv h; obtain ⟨c11, rfl, h⟩ := h
  replace h := popS_inv h; obtain ⟨v17, e18, rfl, h⟩ := h
  replace h := asI_inv h; obtain ⟨end12, rfl, h⟩ := h
  replace h := popN_inv h; obtain ⟨rfl, h⟩ := h
  replace h := popN_inv h; obtain ⟨rfl, h⟩ := h
  exact (node_Decode_j13_eq2 k K p0 cells4 n6 i7 places8 used9 at10 c11 end12).trans h
noncomputable def node_Decode_g1_f0 {ρ : Type} (k : Nat) : Run UX ρ := (suff UX (node_Decode_cfg k) (node_Decode_G k) (node_Decode_S.getD 0 .skip) 1).getD fun _ _ => none
theorem node_Decode_g1_eq0 {ρ : Type} (k : Nat) (K : Ex → St UU → Option ρ) : ∀ (n : Nat) (v : (List Int) × (List (List Int)) × Int × Int × Int × (List Bool)), scopeN UX (fun l s => s.at (node_Decode_cfg (ρ := ρ) k).live (node_Decode_cfg (ρ := ρ) k).boxes (some ((node_Decode_cfg (ρ := ρ) k).labelR l))) (suff UX (node_Decode_cfg k) (node_Decode_G k) (node_Decode_S.getD 0 .skip)) (fun l => ((node_Decode_cfg (ρ := ρ) k).labels l).isSome) n (node_Decode_g1_f0 k) ⟨[(0, .pv (.typ (.li_u8 v.1))), (4, .own (.lli_u8 v.2.1)), (6, .pv (.int .i64 v.2.2.1)), (7, .pv (.int .i64 v.2.2.2.1)), (8, .pv (.int .i64 v.2.2.2.2.1)), (9, .own (.lb v.2.2.2.2.2))], []⟩ (nrmK UX (node_Decode_cfg k) ((node_Decode_cfg (ρ := ρ) k).labelR 1) K) = node_Decode_g1 k (fun kind2 next3 cells4 e5 => K .ret ⟨[(2, .pv (.int .i64 kind2)), (3, .pv (.int .i64 next3)), (4, .own (.lli_u8 cells4)), (5, .pv (.int .i64 e5))], []⟩) (fun kind2 next3 cells4 e5 => K .ret ⟨[(2, .pv (.int .i64 kind2)), (3, .pv (.int .i64 next3)), (4, .pv (.typ (.lli_u8 cells4))), (5, .pv (.int .i64 e5))], []⟩) n v.1 v.2.1 v.2.2.1 v.2.2.2.1 v.2.2.2.2.1 v.2.2.2.2.2 :=
  scope_rec (X := UX) (fun _ => node_Decode_g1_f0 k) (fun v => ⟨[(0, .pv (.typ (.li_u8 v.1))), (4, .own (.lli_u8 v.2.1)), (6, .pv (.int .i64 v.2.2.1)), (7, .pv (.int .i64 v.2.2.2.1)), (8, .pv (.int .i64 v.2.2.2.2.1)), (9, .own (.lb v.2.2.2.2.2))], []⟩) (fun rec v => node_Decode_g1_b k (fun kind2 next3 cells4 e5 => K .ret ⟨[(2, .pv (.int .i64 kind2)), (3, .pv (.int .i64 next3)), (4, .own (.lli_u8 cells4)), (5, .pv (.int .i64 e5))], []⟩) (fun kind2 next3 cells4 e5 => K .ret ⟨[(2, .pv (.int .i64 kind2)), (3, .pv (.int .i64 next3)), (4, .pv (.typ (.lli_u8 cells4))), (5, .pv (.int .i64 e5))], []⟩) (fun p0 cells4 n6 i7 places8 used9 => rec (p0, cells4, n6, i7, places8, used9)) v.1 v.2.1 v.2.2.1 v.2.2.2.1 v.2.2.2.2.1 v.2.2.2.2.2) (fun n v => node_Decode_g1 k (fun kind2 next3 cells4 e5 => K .ret ⟨[(2, .pv (.int .i64 kind2)), (3, .pv (.int .i64 next3)), (4, .own (.lli_u8 cells4)), (5, .pv (.int .i64 e5))], []⟩) (fun kind2 next3 cells4 e5 => K .ret ⟨[(2, .pv (.int .i64 kind2)), (3, .pv (.int .i64 next3)), (4, .pv (.typ (.lli_u8 cells4))), (5, .pv (.int .i64 e5))], []⟩) n v.1 v.2.1 v.2.2.1 v.2.2.2.1 v.2.2.2.2.1 v.2.2.2.2.2) (fun n v => by kernel_rfl) (fun _ => rfl) (fun _ _ => rfl)
theorem node_Decode_g1_ok0 {ρ : Type} (k : Nat) : LabOK UX (node_Decode_cfg (ρ := ρ) k) (node_Decode_G k) (node_Decode_S.getD 0 .skip) 1 (node_Decode_g1_s k) := by
  intro f hf s K r h
  have hf : node_Decode_g1_f0 k = f := by unfold node_Decode_g1_f0; rw [hf]; rfl
  subst hf
  obtain ⟨env, hp⟩ := s
  unfold node_Decode_g1_s at h
  replace h := popS_inv h; obtain ⟨v1, e2, rfl, h⟩ := h
  replace h := as_li_u8_inv h; obtain ⟨p0, rfl, h⟩ := h
  replace h := popS_inv h; obtain ⟨v3, e4, rfl, h⟩ := h
  replace h := asO_lli_u8_inv h; obtain ⟨cells4, rfl, h⟩ := h
  replace h := popS_inv h; obtain ⟨v5, e6, rfl, h⟩ := h
  replace h := asI_inv h; obtain ⟨n6, rfl, h⟩ := h
  replace h := popS_inv h; obtain ⟨v7, e8, rfl, h⟩ := h
  replace h := asI_inv h; obtain ⟨i7, rfl, h⟩ := h
  replace h := popS_inv h; obtain ⟨v9, e10, rfl, h⟩ := h
  replace h := asI_inv h; obtain ⟨places8, rfl, h⟩ := h
  replace h := popS_inv h; obtain ⟨v11, e12, rfl, h⟩ := h
  replace h := asO_lb_inv h; obtain ⟨used9, rfl, h⟩ := h
  replace h := popN_inv h; obtain ⟨rfl, h⟩ := h
  replace h := popN_inv h; obtain ⟨rfl, h⟩ := h
  exact ⟨k, (node_Decode_g1_eq0 k K k (p0, cells4, n6, i7, places8, used9)).trans h⟩
theorem node_Decode_cok {ρ : Type} (k : Nat) : COK (node_Decode_cfg (ρ := ρ) k) (node_Decode_G k) node_Decode_code :=
  cok_of (tl := [(14, node_Decode_l14_s k)]) (tj := [(13, node_Decode_j13_s k), (11, node_Decode_j11_s k), (8, node_Decode_j8_s k)]) (tb := [(1, node_Decode_g1_s k)]) rfl rfl rfl (all_nth 1 (by kernel_rfl) ⟨iter_case (by kernel_rfl) rfl (node_Decode_l14_ok0 k), trivial⟩) (all_nth 3 (by kernel_rfl) ⟨join_case (by kernel_rfl) rfl (node_Decode_j13_ok2 k), join_case (by kernel_rfl) rfl (node_Decode_j11_ok1 k), join_case (by kernel_rfl) rfl (node_Decode_j8_ok0 k), trivial⟩) (fun p hp => by
    simp only [List.mem_cons, List.not_mem_nil, or_false] at hp
    subst hp
    · exact all_nth 1 (by kernel_rfl) ⟨node_Decode_g1_ok0 k, trivial⟩)
noncomputable def node_Decode_enc (r : Int × Int × (List (List Int)) × Int) : AV UU := .pv (.tup [.int .i64 r.1, .int .i64 r.2.1, .typ (.lli_u8 r.2.2.1), .int .i64 r.2.2.2])
noncomputable def node_Decode_dec (v : AV UU) (_ : List (List (AV UU))) : Option (Int × Int × (List (List Int)) × Int) :=
asT v fun q1 =>
popA q1 fun p2 q3 =>
asI .i64 (.pv p2) fun r0 =>
popA q3 fun p4 q5 =>
asI .i64 (.pv p4) fun r1 =>
popA q5 fun p6 q7 =>
as_lli_u8 (.pv p6) fun r2 =>
popA q7 fun p8 q9 =>
asI .i64 (.pv p8) fun r3 =>
popN q9 <|
some (r0, r1, r2, r3)
theorem node_Decode_dec_enc (v : AV UU) (b : List (List (AV UU))) (r : Int × Int × (List (List Int)) × Int) (h : node_Decode_dec v b = some r) : v = node_Decode_enc r := by
  unfold node_Decode_dec at h
  replace h := asT_inv h; obtain ⟨q1, rfl, h⟩ := h
  replace h := popA_inv h; obtain ⟨p2, q3, rfl, h⟩ := h
  replace h := asI_inv h; obtain ⟨r0, e, h⟩ := h; cases e
  replace h := popA_inv h; obtain ⟨p4, q5, rfl, h⟩ := h
  replace h := asI_inv h; obtain ⟨r1, e, h⟩ := h; cases e
  replace h := popA_inv h; obtain ⟨p6, q7, rfl, h⟩ := h
  replace h := as_lli_u8_inv h; obtain ⟨r2, e, h⟩ := h; cases e
  replace h := popA_inv h; obtain ⟨p8, q9, rfl, h⟩ := h
  replace h := asI_inv h; obtain ⟨r3, e, h⟩ := h; cases e
  replace h := popN_inv h; obtain ⟨rfl, h⟩ := h
  cases h
  rfl
theorem node_Decode_eq (k : Nat) (p0 : List Int) : bodyK UX (node_Decode_cfg k) (node_Decode_G k) Try.f34 [.pv (.typ (.li_u8 p0))] [] node_Decode_dec = node_Decode k p0 := by kernel_rfl
theorem node_Decode_con (k : Nat) (p0 : List Int) (r : Int × Int × (List (List Int)) × Int) (h : node_Decode k p0 = some r) : Con (X := UX) Try.prog 34 [.pv (.typ (.li_u8 p0))] [] (node_Decode_enc r) [] :=
  con_of_body xok tok Try.func34 node_Decode_body (node_Decode_gok k) rfl (node_Decode_cok k) (of_decide_eq_true (by kernel_rfl)) node_Decode_dec_enc ((node_Decode_eq k p0).trans h)
noncomputable def node_Decode_an {ρ : Type} (k : Nat) : An UX ρ := fun args bx K =>
popA args fun v1 a2 =>
as_li_u8 v1 fun p0 =>
popN a2 <|
popN bx <|
(node_Decode k p0).bind fun r => K (node_Decode_enc r) []
theorem node_Decode_ok {ρ : Type} (k : Nat) : AnsOK Try.prog 34 (node_Decode_an (ρ := ρ) k) := by
  intro args bx K r h
  unfold node_Decode_an at h
  replace h := popA_inv h; obtain ⟨v1, a2, rfl, h⟩ := h
  replace h := as_li_u8_inv h; obtain ⟨p0, rfl, h⟩ := h
  replace h := popN_inv h; obtain ⟨rfl, h⟩ := h
  replace h := popN_inv h; obtain ⟨rfl, h⟩ := h
  replace h := bind_inv h
  obtain ⟨x, hx, h⟩ := h
  exact ⟨there_of Try.func34 (by kernel_rfl) node_Decode_body, _, _, h, node_Decode_con k p0 x hx⟩
end Go.Proofs.Ytekjibpkkgldgaa.B
