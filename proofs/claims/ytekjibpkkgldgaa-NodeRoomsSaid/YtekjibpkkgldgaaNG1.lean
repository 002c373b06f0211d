/-
  What the program's functions answer: the printed functions' answers.
-/
import Derived.Test.YtekjibpkkgldgaaNG0
namespace Go.Proofs.Ytekjibpkkgldgaa.N
open Go Go.AX
/-! cadastre/cadastrelaw11.wakes -/
noncomputable def cadastrelaw11_wakes_code : Code := match Try.f19.body with | some c => c | none => .skip
theorem cadastrelaw11_wakes_body : Try.f19.body = some cadastrelaw11_wakes_code := by kernel_rfl
noncomputable def cadastrelaw11_wakes_G {ρ : Type} (k : Nat) : Ans UX ρ := gk 29 (node_Encode_an k) (gk 30 (cadastrelaw11_num_an k) (gk 17 (node_Room_an k) (gnil)))
theorem cadastrelaw11_wakes_gok {ρ : Type} (k : Nat) : GOK Try.prog (cadastrelaw11_wakes_G (ρ := ρ) k) := gok_cons (node_Encode_ok k) (gok_cons (cadastrelaw11_num_ok k) (gok_cons (node_Room_ok k) (gok_nil)))
noncomputable def cadastrelaw11_wakes_cfg {ρ : Type} (k : Nat) : Cfg UX ρ where
  live i := (assoc [(0, []), (1, []), (2, [1, 2])] i).getD []
  boxes i := (assoc [(0, []), (1, []), (2, [])] i).getD []
  tk i := (assoc [] i).getD []
  n := 25
  labelR l := (assoc [] l).getD 0
  loops := assoc []
  labels := assoc []
  joins := assoc []
  xl i e := match e with
    | .nxt => assoc [] i
    | .ret => assoc [] i
    | .exit j => (assoc [] i).bind fun l => assoc l j
    | .goto j => (assoc [] i).bind fun l => assoc l j
noncomputable def cadastrelaw11_wakes_L : List Code := selI [] (loopsOf cadastrelaw11_wakes_code)
noncomputable def cadastrelaw11_wakes_J : List Code := selI [] (joinsOf cadastrelaw11_wakes_code)
noncomputable def cadastrelaw11_wakes_S : List Code := scopesOf cadastrelaw11_wakes_code
theorem cadastrelaw11_wakes_cok {ρ : Type} (k : Nat) : COK (cadastrelaw11_wakes_cfg (ρ := ρ) k) (cadastrelaw11_wakes_G k) cadastrelaw11_wakes_code :=
  cok_of (tl := []) (tj := []) (tb := []) rfl rfl rfl (nil_all (by kernel_rfl)) (nil_all (by kernel_rfl)) (fun p hp => by cases hp)
noncomputable def cadastrelaw11_wakes_enc (r : Bool) : AV UU := .pv (.bool r)
noncomputable def cadastrelaw11_wakes_dec (v : AV UU) (_ : List (List (AV UU))) : Option Bool :=
asB v fun r0 =>
some r0
theorem cadastrelaw11_wakes_dec_enc (v : AV UU) (b : List (List (AV UU))) (r : Bool) (h : cadastrelaw11_wakes_dec v b = some r) : v = cadastrelaw11_wakes_enc r := by
  unfold cadastrelaw11_wakes_dec at h
  replace h := asB_inv h; obtain ⟨r0, rfl, h⟩ := h
  cases h
  rfl
theorem cadastrelaw11_wakes_eq (k : Nat) : bodyK UX (cadastrelaw11_wakes_cfg k) (cadastrelaw11_wakes_G k) Try.f19 [] [] cadastrelaw11_wakes_dec = cadastrelaw11_wakes k := by kernel_rfl
theorem cadastrelaw11_wakes_con (k : Nat) (r : Bool) (h : cadastrelaw11_wakes k = some r) : Con (X := UX) Try.prog 19 [] [] (cadastrelaw11_wakes_enc r) [] :=
  con_of_body xok tok Try.func19 cadastrelaw11_wakes_body (cadastrelaw11_wakes_gok k) rfl (cadastrelaw11_wakes_cok k) (of_decide_eq_true (by kernel_rfl)) cadastrelaw11_wakes_dec_enc ((cadastrelaw11_wakes_eq k).trans h)
noncomputable def cadastrelaw11_wakes_an {ρ : Type} (k : Nat) : An UX ρ := fun args bx K =>
popN args <|
popN bx <|
(cadastrelaw11_wakes k).bind fun r => K (cadastrelaw11_wakes_enc r) []
theorem cadastrelaw11_wakes_ok {ρ : Type} (k : Nat) : AnsOK Try.prog 19 (cadastrelaw11_wakes_an (ρ := ρ) k) := by
  intro args bx K r h
  unfold cadastrelaw11_wakes_an at h
  replace h := popN_inv h; obtain ⟨rfl, h⟩ := h
  replace h := popN_inv h; obtain ⟨rfl, h⟩ := h
  replace h := bind_inv h
  obtain ⟨x, hx, h⟩ := h
  exact ⟨there_of Try.func19 (by kernel_rfl) cadastrelaw11_wakes_body, _, _, h, cadastrelaw11_wakes_con k x hx⟩

/-! cadastre/cadastrelaw11.NodeRooms -/
noncomputable def cadastrelaw11_NodeRooms_code : Code := match Try.f3.body with | some c => c | none => .skip
theorem cadastrelaw11_NodeRooms_body : Try.f3.body = some cadastrelaw11_NodeRooms_code := by kernel_rfl
noncomputable def cadastrelaw11_NodeRooms_G {ρ : Type} (k : Nat) : Ans UX ρ := gk 16 (cadastrelaw11_heavy_an k) (gk 17 (node_Room_an k) (gk 18 (cadastreref6_Room_an k) (gk 19 (cadastrelaw11_wakes_an k) (gnil))))
theorem cadastrelaw11_NodeRooms_gok {ρ : Type} (k : Nat) : GOK Try.prog (cadastrelaw11_NodeRooms_G (ρ := ρ) k) := gok_cons (cadastrelaw11_heavy_ok k) (gok_cons (node_Room_ok k) (gok_cons (cadastreref6_Room_ok k) (gok_cons (cadastrelaw11_wakes_ok k) (gok_nil))))
noncomputable def cadastrelaw11_NodeRooms_j4_s {ρ : Type} (k : Nat) : Run UX ρ := fun s K =>
popS 0 s.env fun v1 e2 =>
as_l26 v1 fun l0 =>
popS 3 e2 fun v3 e4 =>
asI .i64 v3 fun i3 =>
popN e4 <|
popN s.hp <|
cadastrelaw11_NodeRooms_j4 k (fun t2 => K .ret ⟨[(2, .pv (.bool t2))], []⟩) (fun l0 i3 => K .nxt ⟨[(0, .pv (.typ (.l26 l0))), (3, .pv (.int .i64 i3))], []⟩) l0 i3
noncomputable def cadastrelaw11_NodeRooms_l2_s {ρ : Type} (k : Nat) : Run UX ρ := fun s K =>
popS 0 s.env fun v1 e2 =>
as_l26 v1 fun l0 =>
popS 3 e2 fun v3 e4 =>
asI .i64 v3 fun i3 =>
popN e4 <|
popN s.hp <|
cadastrelaw11_NodeRooms_l2 k (fun t2 => K .ret ⟨[(2, .pv (.bool t2))], []⟩) (K (.exit 0) ⟨[], []⟩) k l0 i3
noncomputable def cadastrelaw11_NodeRooms_cfg {ρ : Type} (k : Nat) : Cfg UX ρ where
  live i := (assoc [(0, [0]), (1, [0]), (2, [0, 3]), (3, [0, 3]), (4, [0, 3]), (5, []), (6, [0, 3]), (7, []), (8, [])] i).getD []
  boxes i := (assoc [(0, []), (1, []), (2, []), (3, []), (4, []), (5, []), (6, []), (7, []), (8, [])] i).getD []
  tk i := (assoc [] i).getD []
  n := 33
  labelR l := (assoc [] l).getD 0
  loops := assoc [(2, cadastrelaw11_NodeRooms_l2_s k)]
  labels := assoc []
  joins := assoc [(4, cadastrelaw11_NodeRooms_j4_s k)]
  xl i e := match e with
    | .nxt => assoc [(4, ([0, 3], []))] i
    | .ret => assoc [(4, ([2], [])), (2, ([2], []))] i
    | .exit j => (assoc [(2, [(0, ([], []))])] i).bind fun l => assoc l j
    | .goto j => (assoc [] i).bind fun l => assoc l j
noncomputable def cadastrelaw11_NodeRooms_L : List Code := selI [2] (loopsOf cadastrelaw11_NodeRooms_code)
noncomputable def cadastrelaw11_NodeRooms_J : List Code := selI [4] (joinsOf cadastrelaw11_NodeRooms_code)
noncomputable def cadastrelaw11_NodeRooms_S : List Code := scopesOf cadastrelaw11_NodeRooms_code
theorem cadastrelaw11_NodeRooms_l2_eq0 {ρ : Type} (k : Nat) (K : Ex → St UU → Option ρ) : ∀ (n : Nat) (v : (List S26) × Int), iterK UX (fun s => s.at (cadastrelaw11_NodeRooms_cfg (ρ := ρ) k).live (cadastrelaw11_NodeRooms_cfg (ρ := ρ) k).boxes (some 2)) (exec UX (cadastrelaw11_NodeRooms_cfg k) (cadastrelaw11_NodeRooms_G k) (cadastrelaw11_NodeRooms_L.getD 0 .skip)) n ⟨[(0, .pv (.typ (.l26 v.1))), (3, .pv (.int .i64 v.2))], []⟩ (nrmK UX (cadastrelaw11_NodeRooms_cfg k) 2 K) = cadastrelaw11_NodeRooms_l2 k (fun t2 => K .ret ⟨[(2, .pv (.bool t2))], []⟩) (K (.exit 0) ⟨[], []⟩) n v.1 v.2 :=
  iter_rec (X := UX) (fun v => ⟨[(0, .pv (.typ (.l26 v.1))), (3, .pv (.int .i64 v.2))], []⟩) (fun rec v => cadastrelaw11_NodeRooms_l2_b k (fun t2 => K .ret ⟨[(2, .pv (.bool t2))], []⟩) (K (.exit 0) ⟨[], []⟩) (fun l0 i3 => rec (l0, i3)) v.1 v.2) (fun n v => cadastrelaw11_NodeRooms_l2 k (fun t2 => K .ret ⟨[(2, .pv (.bool t2))], []⟩) (K (.exit 0) ⟨[], []⟩) n v.1 v.2) (fun n v => by kernel_rfl) (fun _ => rfl) (fun _ _ => rfl)
theorem cadastrelaw11_NodeRooms_l2_ok0 {ρ : Type} (k : Nat) : IterOK UX (cadastrelaw11_NodeRooms_cfg (ρ := ρ) k) (cadastrelaw11_NodeRooms_G k) (cadastrelaw11_NodeRooms_L.getD 0 .skip) 2 (cadastrelaw11_NodeRooms_l2_s k) := by
  intro s K r h
  obtain ⟨env, hp⟩ := s
  unfold cadastrelaw11_NodeRooms_l2_s at h
  replace h := popS_inv h; obtain ⟨v1, e2, rfl, h⟩ := h
  replace h := as_l26_inv h; obtain ⟨l0, rfl, h⟩ := h
  replace h := popS_inv h; obtain ⟨v3, e4, rfl, h⟩ := h
  replace h := asI_inv h; obtain ⟨i3, rfl, h⟩ := h
  replace h := popN_inv h; obtain ⟨rfl, h⟩ := h
  replace h := popN_inv h; obtain ⟨rfl, h⟩ := h
  exact ⟨k, (cadastrelaw11_NodeRooms_l2_eq0 k K k (l0, i3)).trans h⟩
theorem cadastrelaw11_NodeRooms_j4_eq0 {ρ : Type} (k : Nat) (K : Ex → St UU → Option ρ) (l0 : List S26) (i3 : Int) : exec UX (cadastrelaw11_NodeRooms_cfg k) (cadastrelaw11_NodeRooms_G k) (cadastrelaw11_NodeRooms_J.getD 0 .skip) ⟨[(0, .pv (.typ (.l26 l0))), (3, .pv (.int .i64 i3))], []⟩ (nrmK UX (cadastrelaw11_NodeRooms_cfg k) 4 K) = cadastrelaw11_NodeRooms_j4 k (fun t2 => K .ret ⟨[(2, .pv (.bool t2))], []⟩) (fun l0 i3 => K .nxt ⟨[(0, .pv (.typ (.l26 l0))), (3, .pv (.int .i64 i3))], []⟩) l0 i3 := by kernel_rfl
theorem cadastrelaw11_NodeRooms_j4_ok0 {ρ : Type} (k : Nat) : JoinOK UX (cadastrelaw11_NodeRooms_cfg (ρ := ρ) k) (cadastrelaw11_NodeRooms_G k) (cadastrelaw11_NodeRooms_J.getD 0 .skip) 4 (cadastrelaw11_NodeRooms_j4_s k) := by
  intro s K r h
  obtain ⟨env, hp⟩ := s
  unfold cadastrelaw11_NodeRooms_j4_s at h
  replace h := popS_inv h; obtain ⟨v1, e2, rfl, h⟩ := h
  replace h := as_l26_inv h; obtain ⟨l0, rfl, h⟩ := h
  replace h := popS_inv h; obtain ⟨v3, e4, rfl, h⟩ := h
  replace h := asI_inv h; obtain ⟨i3, rfl, h⟩ := h
  replace h := popN_inv h; obtain ⟨rfl, h⟩ := h
  replace h := popN_inv h; obtain ⟨rfl, h⟩ := h
  exact (cadastrelaw11_NodeRooms_j4_eq0 k K l0 i3).trans h
theorem cadastrelaw11_NodeRooms_cok {ρ : Type} (k : Nat) : COK (cadastrelaw11_NodeRooms_cfg (ρ := ρ) k) (cadastrelaw11_NodeRooms_G k) cadastrelaw11_NodeRooms_code :=
  cok_of (tl := [(2, cadastrelaw11_NodeRooms_l2_s k)]) (tj := [(4, cadastrelaw11_NodeRooms_j4_s k)]) (tb := []) rfl rfl rfl (all_nth 1 (by kernel_rfl) ⟨iter_case (by kernel_rfl) rfl (cadastrelaw11_NodeRooms_l2_ok0 k), trivial⟩) (all_nth 1 (by kernel_rfl) ⟨join_case (by kernel_rfl) rfl (cadastrelaw11_NodeRooms_j4_ok0 k), trivial⟩) (fun p hp => by cases hp)
noncomputable def cadastrelaw11_NodeRooms_enc (r : Bool) : AV UU := .pv (.bool r)
noncomputable def cadastrelaw11_NodeRooms_dec (v : AV UU) (_ : List (List (AV UU))) : Option Bool :=
asB v fun r0 =>
some r0
theorem cadastrelaw11_NodeRooms_dec_enc (v : AV UU) (b : List (List (AV UU))) (r : Bool) (h : cadastrelaw11_NodeRooms_dec v b = some r) : v = cadastrelaw11_NodeRooms_enc r := by
  unfold cadastrelaw11_NodeRooms_dec at h
  replace h := asB_inv h; obtain ⟨r0, rfl, h⟩ := h
  cases h
  rfl
theorem cadastrelaw11_NodeRooms_eq (k : Nat) (l0 : List S26) : bodyK UX (cadastrelaw11_NodeRooms_cfg k) (cadastrelaw11_NodeRooms_G k) Try.f3 [.pv (.typ (.l26 l0))] [] cadastrelaw11_NodeRooms_dec = cadastrelaw11_NodeRooms k l0 := by kernel_rfl
theorem cadastrelaw11_NodeRooms_con (k : Nat) (l0 : List S26) (r : Bool) (h : cadastrelaw11_NodeRooms k l0 = some r) : Con (X := UX) Try.prog 3 [.pv (.typ (.l26 l0))] [] (cadastrelaw11_NodeRooms_enc r) [] :=
  con_of_body xok tok Try.func3 cadastrelaw11_NodeRooms_body (cadastrelaw11_NodeRooms_gok k) rfl (cadastrelaw11_NodeRooms_cok k) (of_decide_eq_true (by kernel_rfl)) cadastrelaw11_NodeRooms_dec_enc ((cadastrelaw11_NodeRooms_eq k l0).trans h)
noncomputable def cadastrelaw11_NodeRooms_an {ρ : Type} (k : Nat) : An UX ρ := fun args bx K =>
popA args fun v1 a2 =>
as_l26 v1 fun l0 =>
popN a2 <|
popN bx <|
(cadastrelaw11_NodeRooms k l0).bind fun r => K (cadastrelaw11_NodeRooms_enc r) []
theorem cadastrelaw11_NodeRooms_ok {ρ : Type} (k : Nat) : AnsOK Try.prog 3 (cadastrelaw11_NodeRooms_an (ρ := ρ) k) := by
  intro args bx K r h
  unfold cadastrelaw11_NodeRooms_an at h
  replace h := popA_inv h; obtain ⟨v1, a2, rfl, h⟩ := h
  replace h := as_l26_inv h; obtain ⟨l0, rfl, h⟩ := h
  replace h := popN_inv h; obtain ⟨rfl, h⟩ := h
  replace h := popN_inv h; obtain ⟨rfl, h⟩ := h
  replace h := bind_inv h
  obtain ⟨x, hx, h⟩ := h
  exact ⟨there_of Try.func3 (by kernel_rfl) cadastrelaw11_NodeRooms_body, _, _, h, cadastrelaw11_NodeRooms_con k l0 x hx⟩
end Go.Proofs.Ytekjibpkkgldgaa.N
