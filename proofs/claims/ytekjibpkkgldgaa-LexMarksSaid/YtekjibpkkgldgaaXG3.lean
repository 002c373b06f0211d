/-
  What the program's functions answer: the printed functions' answers.
-/
import Derived.Test.YtekjibpkkgldgaaXG2
namespace Go.Proofs.Ytekjibpkkgldgaa.X
open Go Go.AX
/-! cadastre/cadastrelaw19.LexMarks -/
noncomputable def cadastrelaw19_LexMarks_code : Code := match Try.f12.body with | some c => c | none => .skip
theorem cadastrelaw19_LexMarks_body : Try.f12.body = some cadastrelaw19_LexMarks_code := by kernel_rfl
noncomputable def cadastrelaw19_LexMarks_G {ρ : Type} (k : Nat) : Ans UX ρ := gk 37 (lex_Tokens_an k) (gk 39 (cadastrelaw19_num_an k) (gk 40 (cadastreref0_EqTokens_an k) (gk 42 (cadastrelaw19_wakes_an k) (gnil))))
theorem cadastrelaw19_LexMarks_gok {ρ : Type} (k : Nat) : GOK Try.prog (cadastrelaw19_LexMarks_G (ρ := ρ) k) := gok_cons (lex_Tokens_ok k) (gok_cons (cadastrelaw19_num_ok k) (gok_cons (cadastreref0_EqTokens_ok k) (gok_cons (cadastrelaw19_wakes_ok k) (gok_nil))))
noncomputable def cadastrelaw19_LexMarks_j8_s {ρ : Type} (k : Nat) : Run UX ρ := fun s K =>
popS 0 s.env fun v1 e2 =>
as_ls v1 fun l0 =>
popS 3 e2 fun v3 e4 =>
asO_ls v3 fun marks3 =>
popS 4 e4 fun v5 e6 =>
asI .i64 v5 fun i4 =>
popN e6 <|
popN s.hp <|
cadastrelaw19_LexMarks_j8 k (fun t2 => K .ret ⟨[(2, .pv (.bool t2))], []⟩) (fun l0 marks3 i4 => K .nxt ⟨[(0, .pv (.typ (.ls l0))), (3, .own (.ls marks3)), (4, .pv (.int .i64 i4))], []⟩) l0 marks3 i4
noncomputable def cadastrelaw19_LexMarks_l3_s {ρ : Type} (k : Nat) : Run UX ρ := fun s K =>
popS 0 s.env fun v1 e2 =>
as_ls v1 fun l0 =>
popS 3 e2 fun v3 e4 =>
asO_ls v3 fun marks3 =>
popS 4 e4 fun v5 e6 =>
asI .i64 v5 fun i4 =>
popN e6 <|
popN s.hp <|
cadastrelaw19_LexMarks_l3 k (fun t2 => K .ret ⟨[(2, .pv (.bool t2))], []⟩) (fun l0 => K (.exit 0) ⟨[(0, .pv (.typ (.ls l0)))], []⟩) k l0 marks3 i4
noncomputable def cadastrelaw19_LexMarks_j17_s {ρ : Type} (k : Nat) : Run UX ρ := fun s K =>
popS 0 s.env fun v1 e2 =>
as_ls v1 fun l0 =>
popS 11 e2 fun v3 e4 =>
asI .i64 v3 fun i11 =>
popN e4 <|
popN s.hp <|
cadastrelaw19_LexMarks_j17 k (fun t2 => K .ret ⟨[(2, .pv (.bool t2))], []⟩) (fun l0 i11 => K .nxt ⟨[(0, .pv (.typ (.ls l0))), (11, .pv (.int .i64 i11))], []⟩) l0 i11
noncomputable def cadastrelaw19_LexMarks_l15_s {ρ : Type} (k : Nat) : Run UX ρ := fun s K =>
popS 0 s.env fun v1 e2 =>
as_ls v1 fun l0 =>
popS 11 e2 fun v3 e4 =>
asI .i64 v3 fun i11 =>
popN e4 <|
popN s.hp <|
cadastrelaw19_LexMarks_l15 k (fun t2 => K .ret ⟨[(2, .pv (.bool t2))], []⟩) (K (.exit 2) ⟨[], []⟩) k l0 i11
noncomputable def cadastrelaw19_LexMarks_j14_s {ρ : Type} (k : Nat) : Run UX ρ := fun s K =>
popS 0 s.env fun v1 e2 =>
as_ls v1 fun l0 =>
popN e2 <|
popN s.hp <|
cadastrelaw19_LexMarks_j14 k (fun t2 => K .ret ⟨[(2, .pv (.bool t2))], []⟩) l0
noncomputable def cadastrelaw19_LexMarks_cfg {ρ : Type} (k : Nat) : Cfg UX ρ where
  live i := (assoc [(0, [0]), (1, [0]), (2, [0, 3]), (3, [0, 3, 4]), (4, [0, 3, 4]), (5, [0, 3, 4]), (6, [0, 3, 4, 5, 6]), (7, []), (8, [0, 3, 4]), (9, [0, 3, 4, 7, 8]), (10, []), (11, [0]), (12, [0, 9, 10]), (13, []), (14, [0]), (15, [0, 11]), (16, [0, 11]), (17, [0, 11]), (18, [0, 11, 13]), (19, [0, 11, 13, 15]), (20, [0, 11, 13, 15, 17]), (21, []), (22, [])] i).getD []
  boxes i := (assoc [(0, []), (1, []), (2, []), (3, []), (4, []), (5, []), (6, []), (7, []), (8, []), (9, []), (10, []), (11, []), (12, []), (13, []), (14, []), (15, []), (16, []), (17, []), (18, []), (19, []), (20, []), (21, []), (22, [])] i).getD []
  tk i := (assoc [] i).getD []
  n := 151
  labelR l := (assoc [] l).getD 0
  loops := assoc [(3, cadastrelaw19_LexMarks_l3_s k), (15, cadastrelaw19_LexMarks_l15_s k)]
  labels := assoc []
  joins := assoc [(8, cadastrelaw19_LexMarks_j8_s k), (17, cadastrelaw19_LexMarks_j17_s k), (14, cadastrelaw19_LexMarks_j14_s k)]
  xl i e := match e with
    | .nxt => assoc [(8, ([0, 3, 4], [])), (17, ([0, 11], []))] i
    | .ret => assoc [(8, ([2], [])), (3, ([2], [])), (17, ([2], [])), (15, ([2], [])), (14, ([2], []))] i
    | .exit j => (assoc [(3, [(0, ([0], []))]), (15, [(2, ([], []))])] i).bind fun l => assoc l j
    | .goto j => (assoc [] i).bind fun l => assoc l j
noncomputable def cadastrelaw19_LexMarks_L : List Code := selI [3, 15] (loopsOf cadastrelaw19_LexMarks_code)
noncomputable def cadastrelaw19_LexMarks_J : List Code := selI [8, 17, 14] (joinsOf cadastrelaw19_LexMarks_code)
noncomputable def cadastrelaw19_LexMarks_S : List Code := scopesOf cadastrelaw19_LexMarks_code
theorem cadastrelaw19_LexMarks_l3_eq0 {ρ : Type} (k : Nat) (K : Ex → St UU → Option ρ) : ∀ (n : Nat) (v : (List ByteArray) × (List ByteArray) × Int), iterK UX (fun s => s.at (cadastrelaw19_LexMarks_cfg (ρ := ρ) k).live (cadastrelaw19_LexMarks_cfg (ρ := ρ) k).boxes (some 3)) (exec UX (cadastrelaw19_LexMarks_cfg k) (cadastrelaw19_LexMarks_G k) (cadastrelaw19_LexMarks_L.getD 0 .skip)) n ⟨[(0, .pv (.typ (.ls v.1))), (3, .own (.ls v.2.1)), (4, .pv (.int .i64 v.2.2))], []⟩ (nrmK UX (cadastrelaw19_LexMarks_cfg k) 3 K) = cadastrelaw19_LexMarks_l3 k (fun t2 => K .ret ⟨[(2, .pv (.bool t2))], []⟩) (fun l0 => K (.exit 0) ⟨[(0, .pv (.typ (.ls l0)))], []⟩) n v.1 v.2.1 v.2.2 :=
  iter_rec (X := UX) (fun v => ⟨[(0, .pv (.typ (.ls v.1))), (3, .own (.ls v.2.1)), (4, .pv (.int .i64 v.2.2))], []⟩) (fun rec v => cadastrelaw19_LexMarks_l3_b k (fun t2 => K .ret ⟨[(2, .pv (.bool t2))], []⟩) (fun l0 => K (.exit 0) ⟨[(0, .pv (.typ (.ls l0)))], []⟩) (fun l0 marks3 i4 => rec (l0, marks3, i4)) v.1 v.2.1 v.2.2) (fun n v => cadastrelaw19_LexMarks_l3 k (fun t2 => K .ret ⟨[(2, .pv (.bool t2))], []⟩) (fun l0 => K (.exit 0) ⟨[(0, .pv (.typ (.ls l0)))], []⟩) n v.1 v.2.1 v.2.2) (fun n v => by kernel_rfl) (fun _ => rfl) (fun _ _ => rfl)
theorem cadastrelaw19_LexMarks_l3_ok0 {ρ : Type} (k : Nat) : IterOK UX (cadastrelaw19_LexMarks_cfg (ρ := ρ) k) (cadastrelaw19_LexMarks_G k) (cadastrelaw19_LexMarks_L.getD 0 .skip) 3 (cadastrelaw19_LexMarks_l3_s k) := by
  intro s K r h
  obtain ⟨env, hp⟩ := s
  unfold cadastrelaw19_LexMarks_l3_s at h
  replace h := popS_inv h; obtain ⟨v1, e2, rfl, h⟩ := h
  replace h := as_ls_inv h; obtain ⟨l0, rfl, h⟩ := h
  replace h := popS_inv h; obtain ⟨v3, e4, rfl, h⟩ := h
  replace h := asO_ls_inv h; obtain ⟨marks3, rfl, h⟩ := h
  replace h := popS_inv h; obtain ⟨v5, e6, rfl, h⟩ := h
  replace h := asI_inv h; obtain ⟨i4, rfl, h⟩ := h
  replace h := popN_inv h; obtain ⟨rfl, h⟩ := h
  replace h := popN_inv h; obtain ⟨rfl, h⟩ := h
  exact ⟨k, (cadastrelaw19_LexMarks_l3_eq0 k K k (l0, marks3, i4)).trans h⟩
theorem cadastrelaw19_LexMarks_l15_eq1 {ρ : Type} (k : Nat) (K : Ex → St UU → Option ρ) : ∀ (n : Nat) (v : (List ByteArray) × Int), iterK UX (fun s => s.at (cadastrelaw19_LexMarks_cfg (ρ := ρ) k).live (cadastrelaw19_LexMarks_cfg (ρ := ρ) k).boxes (some 15)) (exec UX (cadastrelaw19_LexMarks_cfg k) (cadastrelaw19_LexMarks_G k) (cadastrelaw19_LexMarks_L.getD 1 .skip)) n ⟨[(0, .pv (.typ (.ls v.1))), (11, .pv (.int .i64 v.2))], []⟩ (nrmK UX (cadastrelaw19_LexMarks_cfg k) 15 K) = cadastrelaw19_LexMarks_l15 k (fun t2 => K .ret ⟨[(2, .pv (.bool t2))], []⟩) (K (.exit 2) ⟨[], []⟩) n v.1 v.2 :=
  iter_rec (X := UX) (fun v => ⟨[(0, .pv (.typ (.ls v.1))), (11, .pv (.int .i64 v.2))], []⟩) (fun rec v => cadastrelaw19_LexMarks_l15_b k (fun t2 => K .ret ⟨[(2, .pv (.bool t2))], []⟩) (K (.exit 2) ⟨[], []⟩) (fun l0 i11 => rec (l0, i11)) v.1 v.2) (fun n v => cadastrelaw19_LexMarks_l15 k (fun t2 => K .ret ⟨[(2, .pv (.bool t2))], []⟩) (K (.exit 2) ⟨[], []⟩) n v.1 v.2) (fun n v => by kernel_rfl) (fun _ => rfl) (fun _ _ => rfl)
theorem cadastrelaw19_LexMarks_l15_ok1 {ρ : Type} (k : Nat) : IterOK UX (cadastrelaw19_LexMarks_cfg (ρ := ρ) k) (cadastrelaw19_LexMarks_G k) (cadastrelaw19_LexMarks_L.getD 1 .skip) 15 (cadastrelaw19_LexMarks_l15_s k) := by
  intro s K r h
  obtain ⟨env, hp⟩ := s
  unfold cadastrelaw19_LexMarks_l15_s at h
  replace h := popS_inv h; obtain ⟨v1, e2, rfl, h⟩ := h
  replace h := as_ls_inv h; obtain ⟨l0, rfl, h⟩ := h
  replace h := popS_inv h; obtain ⟨v3, e4, rfl, h⟩ := h
  replace h := asI_inv h; obtain ⟨i11, rfl, h⟩ := h
  replace h := popN_inv h; obtain ⟨rfl, h⟩ := h
  replace h := popN_inv h; obtain ⟨rfl, h⟩ := h
  exact ⟨k, (cadastrelaw19_LexMarks_l15_eq1 k K k (l0, i11)).trans h⟩
theorem cadastrelaw19_LexMarks_j8_eq0 {ρ : Type} (k : Nat) (K : Ex → St UU → Option ρ) (l0 : List ByteArray) (marks3 : List ByteArray) (i4 : Int) : exec UX (cadastrelaw19_LexMarks_cfg k) (cadastrelaw19_LexMarks_G k) (cadastrelaw19_LexMarks_J.getD 0 .skip) ⟨[(0, .pv (.typ (.ls l0))), (3, .own (.ls marks3)), (4, .pv (.int .i64 i4))], []⟩ (nrmK UX (cadastrelaw19_LexMarks_cfg k) 8 K) = cadastrelaw19_LexMarks_j8 k (fun t2 => K .ret ⟨[(2, .pv (.bool t2))], []⟩) (fun l0 marks3 i4 => K .nxt ⟨[(0, .pv (.typ (.ls l0))), (3, .own (.ls marks3)), (4, .pv (.int .i64 i4))], []⟩) l0 marks3 i4 := by kernel_rfl
theorem cadastrelaw19_LexMarks_j8_ok0 {ρ : Type} (k : Nat) : JoinOK UX (cadastrelaw19_LexMarks_cfg (ρ := ρ) k) (cadastrelaw19_LexMarks_G k) (cadastrelaw19_LexMarks_J.getD 0 .skip) 8 (cadastrelaw19_LexMarks_j8_s k) := by
  intro s K r h
  obtain ⟨env, hp⟩ := s
  unfold cadastrelaw19_LexMarks_j8_s at h
  replace h := popS_inv h; obtain ⟨v1, e2, rfl, h⟩ := h
  replace h := as_ls_inv h; obtain ⟨l0, rfl, h⟩ := h
  replace h := popS_inv h; obtain ⟨v3, e4, rfl, h⟩ := h
  replace h := asO_ls_inv h; obtain ⟨marks3, rfl, h⟩ := h
  replace h := popS_inv h; obtain ⟨v5, e6, rfl, h⟩ := h
  replace h := asI_inv h; obtain ⟨i4, rfl, h⟩ := h
  replace h := popN_inv h; obtain ⟨rfl, h⟩ := h
  replace h := popN_inv h; obtain ⟨rfl, h⟩ := h
  exact (cadastrelaw19_LexMarks_j8_eq0 k K l0 marks3 i4).trans h
theorem cadastrelaw19_LexMarks_j14_eq1 {ρ : Type} (k : Nat) (K : Ex → St UU → Option ρ) (l0 : List ByteArray) : exec UX (cadastrelaw19_LexMarks_cfg k) (cadastrelaw19_LexMarks_G k) (cadastrelaw19_LexMarks_J.getD 1 .skip) ⟨[(0, .pv (.typ (.ls l0)))], []⟩ (nrmK UX (cadastrelaw19_LexMarks_cfg k) 14 K) = cadastrelaw19_LexMarks_j14 k (fun t2 => K .ret ⟨[(2, .pv (.bool t2))], []⟩) l0 := by kernel_rfl
theorem cadastrelaw19_LexMarks_j14_ok1 {ρ : Type} (k : Nat) : JoinOK UX (cadastrelaw19_LexMarks_cfg (ρ := ρ) k) (cadastrelaw19_LexMarks_G k) (cadastrelaw19_LexMarks_J.getD 1 .skip) 14 (cadastrelaw19_LexMarks_j14_s k) := by
  intro s K r h
  obtain ⟨env, hp⟩ := s
  unfold cadastrelaw19_LexMarks_j14_s at h
  replace h := popS_inv h; obtain ⟨v1, e2, rfl, h⟩ := h
  replace h := as_ls_inv h; obtain ⟨l0, rfl, h⟩ := h
  replace h := popN_inv h; obtain ⟨rfl, h⟩ := h
  replace h := popN_inv h; obtain ⟨rfl, h⟩ := h
  exact (cadastrelaw19_LexMarks_j14_eq1 k K l0).trans h
theorem cadastrelaw19_LexMarks_j17_eq2 {ρ : Type} (k : Nat) (K : Ex → St UU → Option ρ) (l0 : List ByteArray) (i11 : Int) : exec UX (cadastrelaw19_LexMarks_cfg k) (cadastrelaw19_LexMarks_G k) (cadastrelaw19_LexMarks_J.getD 2 .skip) ⟨[(0, .pv (.typ (.ls l0))), (11, .pv (.int .i64 i11))], []⟩ (nrmK UX (cadastrelaw19_LexMarks_cfg k) 17 K) = cadastrelaw19_LexMarks_j17 k (fun t2 => K .ret ⟨[(2, .pv (.bool t2))], []⟩) (fun l0 i11 => K .nxt ⟨[(0, .pv (.typ (.ls l0))), (11, .pv (.int .i64 i11))], []⟩) l0 i11 := by kernel_rfl
theorem cadastrelaw19_LexMarks_j17_ok2 {ρ : Type} (k : Nat) : JoinOK UX (cadastrelaw19_LexMarks_cfg (ρ := ρ) k) (cadastrelaw19_LexMarks_G k) (cadastrelaw19_LexMarks_J.getD 2 .skip) 17 (cadastrelaw19_LexMarks_j17_s k) := by
  intro s K r h
  obtain ⟨env, hp⟩ := s
  unfold cadastrelaw19_LexMarks_j17_s at h
  replace h := popS_inv h; obtain ⟨v1, e2, rfl, h⟩ := h
  replace h := as_ls_inv h; obtain ⟨l0, rfl, h⟩ := h
  replace h := popS_inv h; obtain ⟨v3, e4, rfl, h⟩ := h
  replace h := asI_inv h; obtain ⟨i11, rfl, h⟩ := h
  replace h := popN_inv h; obtain ⟨rfl, h⟩ := h
  replace h := popN_inv h; obtain ⟨rfl, h⟩ := h
  exact (cadastrelaw19_LexMarks_j17_eq2 k K l0 i11).trans h
theorem cadastrelaw19_LexMarks_cok {ρ : Type} (k : Nat) : COK (cadastrelaw19_LexMarks_cfg (ρ := ρ) k) (cadastrelaw19_LexMarks_G k) cadastrelaw19_LexMarks_code :=
  cok_of (tl := [(3, cadastrelaw19_LexMarks_l3_s k), (15, cadastrelaw19_LexMarks_l15_s k)]) (tj := [(8, cadastrelaw19_LexMarks_j8_s k), (17, cadastrelaw19_LexMarks_j17_s k), (14, cadastrelaw19_LexMarks_j14_s k)]) (tb := []) rfl rfl rfl (all_nth 2 (by kernel_rfl) ⟨iter_case (by kernel_rfl) rfl (cadastrelaw19_LexMarks_l15_ok1 k), iter_case (by kernel_rfl) rfl (cadastrelaw19_LexMarks_l3_ok0 k), trivial⟩) (all_nth 3 (by kernel_rfl) ⟨join_case (by kernel_rfl) rfl (cadastrelaw19_LexMarks_j17_ok2 k), join_case (by kernel_rfl) rfl (cadastrelaw19_LexMarks_j14_ok1 k), join_case (by kernel_rfl) rfl (cadastrelaw19_LexMarks_j8_ok0 k), trivial⟩) (fun p hp => by cases hp)
noncomputable def cadastrelaw19_LexMarks_enc (r : Bool) : AV UU := .pv (.bool r)
noncomputable def cadastrelaw19_LexMarks_dec (v : AV UU) (_ : List (List (AV UU))) : Option Bool :=
asB v fun r0 =>
some r0
theorem cadastrelaw19_LexMarks_dec_enc (v : AV UU) (b : List (List (AV UU))) (r : Bool) (h : cadastrelaw19_LexMarks_dec v b = some r) : v = cadastrelaw19_LexMarks_enc r := by
  unfold cadastrelaw19_LexMarks_dec at h
  replace h := asB_inv h; obtain ⟨r0, rfl, h⟩ := h
  cases h
  rfl
theorem cadastrelaw19_LexMarks_eq (k : Nat) (l0 : List ByteArray) : bodyK UX (cadastrelaw19_LexMarks_cfg k) (cadastrelaw19_LexMarks_G k) Try.f12 [.pv (.typ (.ls l0))] [] cadastrelaw19_LexMarks_dec = cadastrelaw19_LexMarks k l0 := by kernel_rfl
theorem cadastrelaw19_LexMarks_con (k : Nat) (l0 : List ByteArray) (r : Bool) (h : cadastrelaw19_LexMarks k l0 = some r) : Con (X := UX) Try.prog 12 [.pv (.typ (.ls l0))] [] (cadastrelaw19_LexMarks_enc r) [] :=
  con_of_body xok tok Try.func12 cadastrelaw19_LexMarks_body (cadastrelaw19_LexMarks_gok k) rfl (cadastrelaw19_LexMarks_cok k) (of_decide_eq_true (by kernel_rfl)) cadastrelaw19_LexMarks_dec_enc ((cadastrelaw19_LexMarks_eq k l0).trans h)
noncomputable def cadastrelaw19_LexMarks_an {ρ : Type} (k : Nat) : An UX ρ := fun args bx K =>
popA args fun v1 a2 =>
as_ls v1 fun l0 =>
popN a2 <|
popN bx <|
(cadastrelaw19_LexMarks k l0).bind fun r => K (cadastrelaw19_LexMarks_enc r) []
theorem cadastrelaw19_LexMarks_ok {ρ : Type} (k : Nat) : AnsOK Try.prog 12 (cadastrelaw19_LexMarks_an (ρ := ρ) k) := by
  intro args bx K r h
  unfold cadastrelaw19_LexMarks_an at h
  replace h := popA_inv h; obtain ⟨v1, a2, rfl, h⟩ := h
  replace h := as_ls_inv h; obtain ⟨l0, rfl, h⟩ := h
  replace h := popN_inv h; obtain ⟨rfl, h⟩ := h
  replace h := popN_inv h; obtain ⟨rfl, h⟩ := h
  replace h := bind_inv h
  obtain ⟨x, hx, h⟩ := h
  exact ⟨there_of Try.func12 (by kernel_rfl) cadastrelaw19_LexMarks_body, _, _, h, cadastrelaw19_LexMarks_con k l0 x hx⟩
end Go.Proofs.Ytekjibpkkgldgaa.X
