/-
  What the program's functions answer: the printed functions' answers.
-/
import Derived.Test.YtekjibpkkgldgaaRG3
namespace Go.Proofs.Ytekjibpkkgldgaa.R
open Go Go.AX
/-! cadastre/cadastrelaw6.RecordBack -/
noncomputable def cadastrelaw6_RecordBack_code : Code := match Try.f14.body with | some c => c | none => .skip
theorem cadastrelaw6_RecordBack_body : Try.f14.body = some cadastrelaw6_RecordBack_code := by kernel_rfl
noncomputable def cadastrelaw6_RecordBack_G {ρ : Type} (k : Nat) : Ans UX ρ := gk 20 (cadastrelaw6_heavy_an k) (gk 21 (record_Encode_an k) (gk 23 (cadastrelaw6_num_an k) (gk 47 (record_Decode_an k) (gk 33 (cadastreref0_CopyBytes_an k) (gk 45 (cadastreref0_EqValues_an k) (gk 24 (cadastreref0_EqBytes_an k) (gk 49 (cadastreref2_All_an k) (gk 25 (cadastrelaw6_wakes_an k) (gnil)))))))))
theorem cadastrelaw6_RecordBack_gok {ρ : Type} (k : Nat) : GOK Try.prog (cadastrelaw6_RecordBack_G (ρ := ρ) k) := gok_cons (cadastrelaw6_heavy_ok k) (gok_cons (record_Encode_ok k) (gok_cons (cadastrelaw6_num_ok k) (gok_cons (record_Decode_ok k) (gok_cons (cadastreref0_CopyBytes_ok k) (gok_cons (cadastreref0_EqValues_ok k) (gok_cons (cadastreref0_EqBytes_ok k) (gok_cons (cadastreref2_All_ok k) (gok_cons (cadastrelaw6_wakes_ok k) (gok_nil)))))))))
noncomputable def cadastrelaw6_RecordBack_l14_s {ρ : Type} (k : Nat) : Run UX ρ := fun s K =>
popS 0 s.env fun v1 e2 =>
as_l34 v1 fun l0 =>
popS 3 e2 fun v3 e4 =>
asI .i64 v3 fun i3 =>
popS 4 e4 fun v5 e6 =>
asP 4 0 v5 <|
popS 5 e6 fun v7 e8 =>
as_li_u8 v7 fun b5 =>
popS 11 e8 fun v9 e10 =>
asI .i64 v9 fun k11 =>
popN e10 <|
popB 4 s.hp fun c11 e12 =>
popA c11 fun v13 c14 =>
as_l44 v13 fun z15 =>
popA c14 fun v16 c17 =>
as_li_u8 v16 fun z18 =>
popN c17 <|
popN e12 <|
cadastrelaw6_RecordBack_l14 k (fun t2 => K .ret ⟨[(2, .pv (.bool t2))], []⟩) (fun l0 i3 p4 => K (.exit 2) ⟨[(0, .pv (.typ (.l34 l0))), (3, .pv (.int .i64 i3)), (4, .ptr 4 0)], [(4, [.pv (.typ (.l44 p4.f0)), .pv (.typ (.li_u8 p4.f1))])]⟩) k l0 i3 b5 k11 (⟨z15, z18⟩ : S34)
noncomputable def cadastrelaw6_RecordBack_j13_s {ρ : Type} (k : Nat) : Run UX ρ := fun s K =>
popS 0 s.env fun v1 e2 =>
as_l34 v1 fun l0 =>
popS 3 e2 fun v3 e4 =>
asI .i64 v3 fun i3 =>
popS 4 e4 fun v5 e6 =>
asP 4 0 v5 <|
popS 5 e6 fun v7 e8 =>
as_li_u8 v7 fun b5 =>
popN e8 <|
popB 4 s.hp fun c9 e10 =>
popA c9 fun v11 c12 =>
as_l44 v11 fun z13 =>
popA c12 fun v14 c15 =>
as_li_u8 v14 fun z16 =>
popN c15 <|
popN e10 <|
cadastrelaw6_RecordBack_j13 k (fun t2 => K .ret ⟨[(2, .pv (.bool t2))], []⟩) (fun l0 i3 p4 => K .nxt ⟨[(0, .pv (.typ (.l34 l0))), (3, .pv (.int .i64 i3)), (4, .ptr 4 0)], [(4, [.pv (.typ (.l44 p4.f0)), .pv (.typ (.li_u8 p4.f1))])]⟩) l0 i3 b5 (⟨z13, z16⟩ : S34)
noncomputable def cadastrelaw6_RecordBack_j19_s {ρ : Type} (k : Nat) : Run UX ρ := fun s K =>
popS 0 s.env fun v1 e2 =>
as_l34 v1 fun l0 =>
popS 3 e2 fun v3 e4 =>
asI .i64 v3 fun i3 =>
popS 4 e4 fun v5 e6 =>
asP 4 0 v5 <|
popN e6 <|
popB 4 s.hp fun c7 e8 =>
popA c7 fun v9 c10 =>
as_l44 v9 fun z11 =>
popA c10 fun v12 c13 =>
as_li_u8 v12 fun z14 =>
popN c13 <|
popN e8 <|
cadastrelaw6_RecordBack_j19 k (fun t2 => K .ret ⟨[(2, .pv (.bool t2))], []⟩) (fun l0 i3 => K .nxt ⟨[(0, .pv (.typ (.l34 l0))), (3, .pv (.int .i64 i3))], []⟩) l0 i3 (⟨z11, z14⟩ : S34)
noncomputable def cadastrelaw6_RecordBack_j4_s {ρ : Type} (k : Nat) : Run UX ρ := fun s K =>
popS 0 s.env fun v1 e2 =>
as_l34 v1 fun l0 =>
popS 3 e2 fun v3 e4 =>
asI .i64 v3 fun i3 =>
popN e4 <|
popN s.hp <|
cadastrelaw6_RecordBack_j4 k (fun t2 => K .ret ⟨[(2, .pv (.bool t2))], []⟩) (fun l0 i3 => K .nxt ⟨[(0, .pv (.typ (.l34 l0))), (3, .pv (.int .i64 i3))], []⟩) l0 i3
noncomputable def cadastrelaw6_RecordBack_l2_s {ρ : Type} (k : Nat) : Run UX ρ := fun s K =>
popS 0 s.env fun v1 e2 =>
as_l34 v1 fun l0 =>
popS 3 e2 fun v3 e4 =>
asI .i64 v3 fun i3 =>
popN e4 <|
popN s.hp <|
cadastrelaw6_RecordBack_l2 k (fun t2 => K .ret ⟨[(2, .pv (.bool t2))], []⟩) (K (.exit 0) ⟨[], []⟩) k l0 i3
noncomputable def cadastrelaw6_RecordBack_cfg {ρ : Type} (k : Nat) : Cfg UX ρ where
  live i := (assoc [(0, [0]), (1, [0]), (2, [0, 3]), (3, [0, 3]), (4, [0, 3]), (5, [0, 3, 4]), (6, []), (7, [0, 3, 4]), (8, [0, 3, 4, 5, 6]), (9, [0, 3, 4, 5]), (10, [0, 3, 4, 5, 7, 8]), (11, [0, 3, 4, 5, 7, 8, 10]), (12, []), (13, [0, 3, 4, 5]), (14, [0, 3, 4, 5, 11]), (15, [0, 3, 4, 5, 11]), (16, [0, 3, 4, 5, 11]), (17, [0, 3, 4, 5, 11, 13]), (18, []), (19, [0, 3, 4]), (20, [0, 3, 4, 14, 15]), (21, [0, 3, 4, 14]), (22, [0, 3, 4, 14, 16, 17]), (23, []), (24, [])] i).getD []
  boxes i := (assoc [(0, []), (1, []), (2, []), (3, []), (4, []), (5, [4]), (6, []), (7, [4]), (8, [4]), (9, [4]), (10, [4]), (11, [4]), (12, []), (13, [4]), (14, [4]), (15, [4]), (16, [4]), (17, [4]), (18, []), (19, [4]), (20, [4]), (21, [4]), (22, [4]), (23, []), (24, [])] i).getD []
  tk i := (assoc [] i).getD []
  n := 121
  labelR l := (assoc [] l).getD 0
  loops := assoc [(14, cadastrelaw6_RecordBack_l14_s k), (2, cadastrelaw6_RecordBack_l2_s k)]
  labels := assoc []
  joins := assoc [(13, cadastrelaw6_RecordBack_j13_s k), (19, cadastrelaw6_RecordBack_j19_s k), (4, cadastrelaw6_RecordBack_j4_s k)]
  xl i e := match e with
    | .nxt => assoc [(13, ([0, 3, 4], [4])), (19, ([0, 3], [])), (4, ([0, 3], []))] i
    | .ret => assoc [(14, ([2], [])), (13, ([2], [])), (19, ([2], [])), (4, ([2], [])), (2, ([2], []))] i
    | .exit j => (assoc [(14, [(2, ([0, 3, 4], [4]))]), (2, [(0, ([], []))])] i).bind fun l => assoc l j
    | .goto j => (assoc [] i).bind fun l => assoc l j
noncomputable def cadastrelaw6_RecordBack_L : List Code := selI [14, 2] (loopsOf cadastrelaw6_RecordBack_code)
noncomputable def cadastrelaw6_RecordBack_J : List Code := selI [13, 19, 4] (joinsOf cadastrelaw6_RecordBack_code)
noncomputable def cadastrelaw6_RecordBack_S : List Code := scopesOf cadastrelaw6_RecordBack_code
theorem cadastrelaw6_RecordBack_l2_eq0 {ρ : Type} (k : Nat) (K : Ex → St UU → Option ρ) : ∀ (n : Nat) (v : (List S34) × Int), iterK UX (fun s => s.at (cadastrelaw6_RecordBack_cfg (ρ := ρ) k).live (cadastrelaw6_RecordBack_cfg (ρ := ρ) k).boxes (some 2)) (exec UX (cadastrelaw6_RecordBack_cfg k) (cadastrelaw6_RecordBack_G k) (cadastrelaw6_RecordBack_L.getD 0 .skip)) n ⟨[(0, .pv (.typ (.l34 v.1))), (3, .pv (.int .i64 v.2))], []⟩ (nrmK UX (cadastrelaw6_RecordBack_cfg k) 2 K) = cadastrelaw6_RecordBack_l2 k (fun t2 => K .ret ⟨[(2, .pv (.bool t2))], []⟩) (K (.exit 0) ⟨[], []⟩) n v.1 v.2 :=
  iter_rec (X := UX) (fun v => ⟨[(0, .pv (.typ (.l34 v.1))), (3, .pv (.int .i64 v.2))], []⟩) (fun rec v => cadastrelaw6_RecordBack_l2_b k (fun t2 => K .ret ⟨[(2, .pv (.bool t2))], []⟩) (K (.exit 0) ⟨[], []⟩) (fun l0 i3 => rec (l0, i3)) v.1 v.2) (fun n v => cadastrelaw6_RecordBack_l2 k (fun t2 => K .ret ⟨[(2, .pv (.bool t2))], []⟩) (K (.exit 0) ⟨[], []⟩) n v.1 v.2) (fun n v => by kernel_rfl) (fun _ => rfl) (fun _ _ => rfl)
theorem cadastrelaw6_RecordBack_l2_ok0 {ρ : Type} (k : Nat) : IterOK UX (cadastrelaw6_RecordBack_cfg (ρ := ρ) k) (cadastrelaw6_RecordBack_G k) (cadastrelaw6_RecordBack_L.getD 0 .skip) 2 (cadastrelaw6_RecordBack_l2_s k) := by
  intro s K r h
  obtain ⟨env, hp⟩ := s
  unfold cadastrelaw6_RecordBack_l2_s at h
  replace h := popS_inv h; obtain ⟨v1, e2, rfl, h⟩ := h
  replace h := as_l34_inv h; obtain ⟨l0, rfl, h⟩ := h
  replace h := popS_inv h; obtain ⟨v3, e4, rfl, h⟩ := h
  replace h := asI_inv h; obtain ⟨i3, rfl, h⟩ := h
  replace h := popN_inv h; obtain ⟨rfl, h⟩ := h
  replace h := popN_inv h; obtain ⟨rfl, h⟩ := h
  exact ⟨k, (cadastrelaw6_RecordBack_l2_eq0 k K k (l0, i3)).trans h⟩
theorem cadastrelaw6_RecordBack_l14_eq1 {ρ : Type} (k : Nat) (K : Ex → St UU → Option ρ) : ∀ (n : Nat) (v : (List S34) × Int × (List Int) × Int × S34), iterK UX (fun s => s.at (cadastrelaw6_RecordBack_cfg (ρ := ρ) k).live (cadastrelaw6_RecordBack_cfg (ρ := ρ) k).boxes (some 14)) (exec UX (cadastrelaw6_RecordBack_cfg k) (cadastrelaw6_RecordBack_G k) (cadastrelaw6_RecordBack_L.getD 1 .skip)) n ⟨[(0, .pv (.typ (.l34 v.1))), (3, .pv (.int .i64 v.2.1)), (4, .ptr 4 0), (5, .pv (.typ (.li_u8 v.2.2.1))), (11, .pv (.int .i64 v.2.2.2.1))], [(4, [.pv (.typ (.l44 v.2.2.2.2.f0)), .pv (.typ (.li_u8 v.2.2.2.2.f1))])]⟩ (nrmK UX (cadastrelaw6_RecordBack_cfg k) 14 K) = cadastrelaw6_RecordBack_l14 k (fun t2 => K .ret ⟨[(2, .pv (.bool t2))], []⟩) (fun l0 i3 p4 => K (.exit 2) ⟨[(0, .pv (.typ (.l34 l0))), (3, .pv (.int .i64 i3)), (4, .ptr 4 0)], [(4, [.pv (.typ (.l44 p4.f0)), .pv (.typ (.li_u8 p4.f1))])]⟩) n v.1 v.2.1 v.2.2.1 v.2.2.2.1 v.2.2.2.2 :=
  iter_rec (X := UX) (fun v => ⟨[(0, .pv (.typ (.l34 v.1))), (3, .pv (.int .i64 v.2.1)), (4, .ptr 4 0), (5, .pv (.typ (.li_u8 v.2.2.1))), (11, .pv (.int .i64 v.2.2.2.1))], [(4, [.pv (.typ (.l44 v.2.2.2.2.f0)), .pv (.typ (.li_u8 v.2.2.2.2.f1))])]⟩) (fun rec v => cadastrelaw6_RecordBack_l14_b k (fun t2 => K .ret ⟨[(2, .pv (.bool t2))], []⟩) (fun l0 i3 p4 => K (.exit 2) ⟨[(0, .pv (.typ (.l34 l0))), (3, .pv (.int .i64 i3)), (4, .ptr 4 0)], [(4, [.pv (.typ (.l44 p4.f0)), .pv (.typ (.li_u8 p4.f1))])]⟩) (fun l0 i3 b5 k11 p4 => rec (l0, i3, b5, k11, p4)) v.1 v.2.1 v.2.2.1 v.2.2.2.1 v.2.2.2.2) (fun n v => cadastrelaw6_RecordBack_l14 k (fun t2 => K .ret ⟨[(2, .pv (.bool t2))], []⟩) (fun l0 i3 p4 => K (.exit 2) ⟨[(0, .pv (.typ (.l34 l0))), (3, .pv (.int .i64 i3)), (4, .ptr 4 0)], [(4, [.pv (.typ (.l44 p4.f0)), .pv (.typ (.li_u8 p4.f1))])]⟩) n v.1 v.2.1 v.2.2.1 v.2.2.2.1 v.2.2.2.2) (fun n v => by kernel_rfl) (fun _ => rfl) (fun _ _ => rfl)
theorem cadastrelaw6_RecordBack_l14_ok1 {ρ : Type} (k : Nat) : IterOK UX (cadastrelaw6_RecordBack_cfg (ρ := ρ) k) (cadastrelaw6_RecordBack_G k) (cadastrelaw6_RecordBack_L.getD 1 .skip) 14 (cadastrelaw6_RecordBack_l14_s k) := by
  intro s K r h
  obtain ⟨env, hp⟩ := s
  unfold cadastrelaw6_RecordBack_l14_s at h
  replace h := popS_inv h; obtain ⟨v1, e2, rfl, h⟩ := h
  replace h := as_l34_inv h; obtain ⟨l0, rfl, h⟩ := h
  replace h := popS_inv h; obtain ⟨v3, e4, rfl, h⟩ := h
  replace h := asI_inv h; obtain ⟨i3, rfl, h⟩ := h
  replace h := popS_inv h; obtain ⟨v5, e6, rfl, h⟩ := h
  replace h := asP_inv h; obtain ⟨rfl, h⟩ := h
  replace h := popS_inv h; obtain ⟨v7, e8, rfl, h⟩ := h
  replace h := as_li_u8_inv h; obtain ⟨b5, rfl, h⟩ := h
  replace h := popS_inv h; obtain ⟨v9, e10, rfl, h⟩ := h
  replace h := asI_inv h; obtain ⟨k11, rfl, h⟩ := h
  replace h := popN_inv h; obtain ⟨rfl, h⟩ := h
  replace h := popB_inv h; obtain ⟨c11, e12, rfl, h⟩ := h
  replace h := popA_inv h; obtain ⟨v13, c14, rfl, h⟩ := h
  replace h := as_l44_inv h; obtain ⟨z15, rfl, h⟩ := h
  replace h := popA_inv h; obtain ⟨v16, c17, rfl, h⟩ := h
  replace h := as_li_u8_inv h; obtain ⟨z18, rfl, h⟩ := h
  replace h := popN_inv h; obtain ⟨rfl, h⟩ := h
  replace h := popN_inv h; obtain ⟨rfl, h⟩ := h
  exact ⟨k, (cadastrelaw6_RecordBack_l14_eq1 k K k (l0, i3, b5, k11, (⟨z15, z18⟩ : S34))).trans h⟩
theorem cadastrelaw6_RecordBack_j4_eq0 {ρ : Type} (k : Nat) (K : Ex → St UU → Option ρ) (l0 : List S34) (i3 : Int) : exec UX (cadastrelaw6_RecordBack_cfg k) (cadastrelaw6_RecordBack_G k) (cadastrelaw6_RecordBack_J.getD 0 .skip) ⟨[(0, .pv (.typ (.l34 l0))), (3, .pv (.int .i64 i3))], []⟩ (nrmK UX (cadastrelaw6_RecordBack_cfg k) 4 K) = cadastrelaw6_RecordBack_j4 k (fun t2 => K .ret ⟨[(2, .pv (.bool t2))], []⟩) (fun l0 i3 => K .nxt ⟨[(0, .pv (.typ (.l34 l0))), (3, .pv (.int .i64 i3))], []⟩) l0 i3 := by kernel_rfl
theorem cadastrelaw6_RecordBack_j4_ok0 {ρ : Type} (k : Nat) : JoinOK UX (cadastrelaw6_RecordBack_cfg (ρ := ρ) k) (cadastrelaw6_RecordBack_G k) (cadastrelaw6_RecordBack_J.getD 0 .skip) 4 (cadastrelaw6_RecordBack_j4_s k) := by
  intro s K r h
  obtain ⟨env, hp⟩ := s
  unfold cadastrelaw6_RecordBack_j4_s at h
  replace h := popS_inv h; obtain ⟨v1, e2, rfl, h⟩ := h
  replace h := as_l34_inv h; obtain ⟨l0, rfl, h⟩ := h
  replace h := popS_inv h; obtain ⟨v3, e4, rfl, h⟩ := h
  replace h := asI_inv h; obtain ⟨i3, rfl, h⟩ := h
  replace h := popN_inv h; obtain ⟨rfl, h⟩ := h
  replace h := popN_inv h; obtain ⟨rfl, h⟩ := h
  exact (cadastrelaw6_RecordBack_j4_eq0 k K l0 i3).trans h
theorem cadastrelaw6_RecordBack_j19_eq1 {ρ : Type} (k : Nat) (K : Ex → St UU → Option ρ) (l0 : List S34) (i3 : Int) (p4 : S34) : exec UX (cadastrelaw6_RecordBack_cfg k) (cadastrelaw6_RecordBack_G k) (cadastrelaw6_RecordBack_J.getD 1 .skip) ⟨[(0, .pv (.typ (.l34 l0))), (3, .pv (.int .i64 i3)), (4, .ptr 4 0)], [(4, [.pv (.typ (.l44 p4.f0)), .pv (.typ (.li_u8 p4.f1))])]⟩ (nrmK UX (cadastrelaw6_RecordBack_cfg k) 19 K) = cadastrelaw6_RecordBack_j19 k (fun t2 => K .ret ⟨[(2, .pv (.bool t2))], []⟩) (fun l0 i3 => K .nxt ⟨[(0, .pv (.typ (.l34 l0))), (3, .pv (.int .i64 i3))], []⟩) l0 i3 p4 := by kernel_rfl
theorem cadastrelaw6_RecordBack_j19_ok1 {ρ : Type} (k : Nat) : JoinOK UX (cadastrelaw6_RecordBack_cfg (ρ := ρ) k) (cadastrelaw6_RecordBack_G k) (cadastrelaw6_RecordBack_J.getD 1 .skip) 19 (cadastrelaw6_RecordBack_j19_s k) := by
  intro s K r h
  obtain ⟨env, hp⟩ := s
  unfold cadastrelaw6_RecordBack_j19_s at h
  replace h := popS_inv h; obtain ⟨v1, e2, rfl, h⟩ := h
  replace h := as_l34_inv h; obtain ⟨l0, rfl, h⟩ := h
  replace h := popS_inv h; obtain ⟨v3, e4, rfl, h⟩ := h
  replace h := asI_inv h; obtain ⟨i3, rfl, h⟩ := h
  replace h := popS_inv h; obtain ⟨v5, e6, rfl, h⟩ := h
  replace h := asP_inv h; obtain ⟨rfl, h⟩ := h
  replace h := popN_inv h; obtain ⟨rfl, h⟩ := h
  replace h := popB_inv h; obtain ⟨c7, e8, rfl, h⟩ := h
  replace h := popA_inv h; obtain ⟨v9, c10, rfl, h⟩ := h
  replace h := as_l44_inv h; obtain ⟨z11, rfl, h⟩ := h
  replace h := popA_inv h; obtain ⟨v12, c13, rfl, h⟩ := h
  replace h := as_li_u8_inv h; obtain ⟨z14, rfl, h⟩ := h
  replace h := popN_inv h; obtain ⟨rfl, h⟩ := h
  replace h := popN_inv h; obtain ⟨rfl, h⟩ := h
  exact (cadastrelaw6_RecordBack_j19_eq1 k K l0 i3 (⟨z11, z14⟩ : S34)).trans h
theorem cadastrelaw6_RecordBack_j13_eq2 {ρ : Type} (k : Nat) (K : Ex → St UU → Option ρ) (l0 : List S34) (i3 : Int) (b5 : List Int) (p4 : S34) : exec UX (cadastrelaw6_RecordBack_cfg k) (cadastrelaw6_RecordBack_G k) (cadastrelaw6_RecordBack_J.getD 2 .skip) ⟨[(0, .pv (.typ (.l34 l0))), (3, .pv (.int .i64 i3)), (4, .ptr 4 0), (5, .pv (.typ (.li_u8 b5)))], [(4, [.pv (.typ (.l44 p4.f0)), .pv (.typ (.li_u8 p4.f1))])]⟩ (nrmK UX (cadastrelaw6_RecordBack_cfg k) 13 K) = cadastrelaw6_RecordBack_j13 k (fun t2 => K .ret ⟨[(2, .pv (.bool t2))], []⟩) (fun l0 i3 p4 => K .nxt ⟨[(0, .pv (.typ (.l34 l0))), (3, .pv (.int .i64 i3)), (4, .ptr 4 0)], [(4, [.pv (.typ (.l44 p4.f0)), .pv (.typ (.li_u8 p4.f1))])]⟩) l0 i3 b5 p4 := by kernel_rfl
theorem cadastrelaw6_RecordBack_j13_ok2 {ρ : Type} (k : Nat) : JoinOK UX (cadastrelaw6_RecordBack_cfg (ρ := ρ) k) (cadastrelaw6_RecordBack_G k) (cadastrelaw6_RecordBack_J.getD 2 .skip) 13 (cadastrelaw6_RecordBack_j13_s k) := by
  intro s K r h
  obtain ⟨env, hp⟩ := s
  unfold cadastrelaw6_RecordBack_j13_s at h
  replace h := popS_inv h; obtain ⟨v1, e2, rfl, h⟩ := h
  replace h := as_l34_inv h; obtain ⟨l0, rfl, h⟩ := h
  replace h := popS_inv h; obtain ⟨v3, e4, rfl, h⟩ := h
  replace h := asI_inv h; obtain ⟨i3, rfl, h⟩ := h
  replace h := popS_inv h; obtain ⟨v5, e6, rfl, h⟩ := h
  replace h := asP_inv h; obtain ⟨rfl, h⟩ := h
  replace h := popS_inv h; obtain ⟨v7, e8, rfl, h⟩ := h
  replace h := as_li_u8_inv h; obtain ⟨b5, rfl, h⟩ := h
  replace h := popN_inv h; obtain ⟨rfl, h⟩ := h
  replace h := popB_inv h; obtain ⟨c9, e10, rfl, h⟩ := h
  replace h := popA_inv h; obtain ⟨v11, c12, rfl, h⟩ := h
  replace h := as_l44_inv h; obtain ⟨z13, rfl, h⟩ := h
  replace h := popA_inv h; obtain ⟨v14, c15, rfl, h⟩ := h
  replace h := as_li_u8_inv h; obtain ⟨z16, rfl, h⟩ := h
  replace h := popN_inv h; obtain ⟨rfl, h⟩ := h
  replace h := popN_inv h; obtain ⟨rfl, h⟩ := h
  exact (cadastrelaw6_RecordBack_j13_eq2 k K l0 i3 b5 (⟨z13, z16⟩ : S34)).trans h
theorem cadastrelaw6_RecordBack_cok {ρ : Type} (k : Nat) : COK (cadastrelaw6_RecordBack_cfg (ρ := ρ) k) (cadastrelaw6_RecordBack_G k) cadastrelaw6_RecordBack_code :=
  cok_of (tl := [(14, cadastrelaw6_RecordBack_l14_s k), (2, cadastrelaw6_RecordBack_l2_s k)]) (tj := [(13, cadastrelaw6_RecordBack_j13_s k), (19, cadastrelaw6_RecordBack_j19_s k), (4, cadastrelaw6_RecordBack_j4_s k)]) (tb := []) rfl rfl rfl (all_nth 2 (by kernel_rfl) ⟨iter_case (by kernel_rfl) rfl (cadastrelaw6_RecordBack_l14_ok1 k), iter_case (by kernel_rfl) rfl (cadastrelaw6_RecordBack_l2_ok0 k), trivial⟩) (all_nth 3 (by kernel_rfl) ⟨join_case (by kernel_rfl) rfl (cadastrelaw6_RecordBack_j13_ok2 k), join_case (by kernel_rfl) rfl (cadastrelaw6_RecordBack_j19_ok1 k), join_case (by kernel_rfl) rfl (cadastrelaw6_RecordBack_j4_ok0 k), trivial⟩) (fun p hp => by cases hp)
noncomputable def cadastrelaw6_RecordBack_enc (r : Bool) : AV UU := .pv (.bool r)
noncomputable def cadastrelaw6_RecordBack_dec (v : AV UU) (_ : List (List (AV UU))) : Option Bool :=
asB v fun r0 =>
some r0
theorem cadastrelaw6_RecordBack_dec_enc (v : AV UU) (b : List (List (AV UU))) (r : Bool) (h : cadastrelaw6_RecordBack_dec v b = some r) : v = cadastrelaw6_RecordBack_enc r := by
  unfold cadastrelaw6_RecordBack_dec at h
  replace h := asB_inv h; obtain ⟨r0, rfl, h⟩ := h
  cases h
  rfl
theorem cadastrelaw6_RecordBack_eq (k : Nat) (l0 : List S34) : bodyK UX (cadastrelaw6_RecordBack_cfg k) (cadastrelaw6_RecordBack_G k) Try.f14 [.pv (.typ (.l34 l0))] [] cadastrelaw6_RecordBack_dec = cadastrelaw6_RecordBack k l0 := by kernel_rfl
theorem cadastrelaw6_RecordBack_con (k : Nat) (l0 : List S34) (r : Bool) (h : cadastrelaw6_RecordBack k l0 = some r) : Con (X := UX) Try.prog 14 [.pv (.typ (.l34 l0))] [] (cadastrelaw6_RecordBack_enc r) [] :=
  con_of_body xok tok Try.func14 cadastrelaw6_RecordBack_body (cadastrelaw6_RecordBack_gok k) rfl (cadastrelaw6_RecordBack_cok k) (of_decide_eq_true (by kernel_rfl)) cadastrelaw6_RecordBack_dec_enc ((cadastrelaw6_RecordBack_eq k l0).trans h)
noncomputable def cadastrelaw6_RecordBack_an {ρ : Type} (k : Nat) : An UX ρ := fun args bx K =>
popA args fun v1 a2 =>
as_l34 v1 fun l0 =>
popN a2 <|
popN bx <|
(cadastrelaw6_RecordBack k l0).bind fun r => K (cadastrelaw6_RecordBack_enc r) []
theorem cadastrelaw6_RecordBack_ok {ρ : Type} (k : Nat) : AnsOK Try.prog 14 (cadastrelaw6_RecordBack_an (ρ := ρ) k) := by
  intro args bx K r h
  unfold cadastrelaw6_RecordBack_an at h
  replace h := popA_inv h; obtain ⟨v1, a2, rfl, h⟩ := h
  replace h := as_l34_inv h; obtain ⟨l0, rfl, h⟩ := h
  replace h := popN_inv h; obtain ⟨rfl, h⟩ := h
  replace h := popN_inv h; obtain ⟨rfl, h⟩ := h
  replace h := bind_inv h
  obtain ⟨x, hx, h⟩ := h
  exact ⟨there_of Try.func14 (by kernel_rfl) cadastrelaw6_RecordBack_body, _, _, h, cadastrelaw6_RecordBack_con k l0 x hx⟩

/-! cadastre/cadastreref1.same -/
noncomputable def cadastreref1_same_code : Code := match Try.f76.body with | some c => c | none => .skip
theorem cadastreref1_same_body : Try.f76.body = some cadastreref1_same_code := by kernel_rfl
noncomputable def cadastreref1_same_G {ρ : Type} (k : Nat) : Ans UX ρ := gnil
theorem cadastreref1_same_gok {ρ : Type} (k : Nat) : GOK Try.prog (cadastreref1_same_G (ρ := ρ) k) := gok_nil
noncomputable def cadastreref1_same_l4_s {ρ : Type} (k : Nat) : Run UX ρ := fun s K =>
popS 0 s.env fun v1 e2 =>
as_li_u8 v1 fun a0 =>
popS 1 e2 fun v3 e4 =>
as_li_u8 v3 fun b1 =>
popS 5 e4 fun v5 e6 =>
asI .i64 v5 fun i5 =>
popN e6 <|
popN s.hp <|
cadastreref1_same_l4 k (fun t4 => K .ret ⟨[(4, .pv (.bool t4))], []⟩) (K (.exit 0) ⟨[], []⟩) k a0 b1 i5
noncomputable def cadastreref1_same_cfg {ρ : Type} (k : Nat) : Cfg UX ρ where
  live i := (assoc [(0, [0, 1]), (1, [0, 1]), (2, []), (3, [0, 1]), (4, [0, 1, 5]), (5, [0, 1, 5]), (6, [0, 1, 5]), (7, []), (8, [])] i).getD []
  boxes i := (assoc [(0, []), (1, []), (2, []), (3, []), (4, []), (5, []), (6, []), (7, []), (8, [])] i).getD []
  tk i := (assoc [] i).getD []
  n := 26
  labelR l := (assoc [] l).getD 0
  loops := assoc [(4, cadastreref1_same_l4_s k)]
  labels := assoc []
  joins := assoc []
  xl i e := match e with
    | .nxt => assoc [] i
    | .ret => assoc [(4, ([4], []))] i
    | .exit j => (assoc [(4, [(0, ([], []))])] i).bind fun l => assoc l j
    | .goto j => (assoc [] i).bind fun l => assoc l j
noncomputable def cadastreref1_same_L : List Code := selI [4] (loopsOf cadastreref1_same_code)
noncomputable def cadastreref1_same_J : List Code := selI [] (joinsOf cadastreref1_same_code)
noncomputable def cadastreref1_same_S : List Code := scopesOf cadastreref1_same_code
theorem cadastreref1_same_l4_eq0 {ρ : Type} (k : Nat) (K : Ex → St UU → Option ρ) : ∀ (n : Nat) (v : (List Int) × (List Int) × Int), iterK UX (fun s => s.at (cadastreref1_same_cfg (ρ := ρ) k).live (cadastreref1_same_cfg (ρ := ρ) k).boxes (some 4)) (exec UX (cadastreref1_same_cfg k) (cadastreref1_same_G k) (cadastreref1_same_L.getD 0 .skip)) n ⟨[(0, .pv (.typ (.li_u8 v.1))), (1, .pv (.typ (.li_u8 v.2.1))), (5, .pv (.int .i64 v.2.2))], []⟩ (nrmK UX (cadastreref1_same_cfg k) 4 K) = cadastreref1_same_l4 k (fun t4 => K .ret ⟨[(4, .pv (.bool t4))], []⟩) (K (.exit 0) ⟨[], []⟩) n v.1 v.2.1 v.2.2 :=
  iter_rec (X := UX) (fun v => ⟨[(0, .pv (.typ (.li_u8 v.1))), (1, .pv (.typ (.li_u8 v.2.1))), (5, .pv (.int .i64 v.2.2))], []⟩) (fun rec v => cadastreref1_same_l4_b k (fun t4 => K .ret ⟨[(4, .pv (.bool t4))], []⟩) (K (.exit 0) ⟨[], []⟩) (fun a0 b1 i5 => rec (a0, b1, i5)) v.1 v.2.1 v.2.2) (fun n v => cadastreref1_same_l4 k (fun t4 => K .ret ⟨[(4, .pv (.bool t4))], []⟩) (K (.exit 0) ⟨[], []⟩) n v.1 v.2.1 v.2.2) (fun n v => by kernel_rfl) (fun _ => rfl) (fun _ _ => rfl)
theorem cadastreref1_same_l4_ok0 {ρ : Type} (k : Nat) : IterOK UX (cadastreref1_same_cfg (ρ := ρ) k) (cadastreref1_same_G k) (cadastreref1_same_L.getD 0 .skip) 4 (cadastreref1_same_l4_s k) := by
  intro s K r h
  obtain ⟨env, hp⟩ := s
  unfold cadastreref1_same_l4_s at h
  replace h := popS_inv h; obtain ⟨v1, e2, rfl, h⟩ := h
  replace h := as_li_u8_inv h; obtain ⟨a0, rfl, h⟩ := h
  replace h := popS_inv h; obtain ⟨v3, e4, rfl, h⟩ := h
  replace h := as_li_u8_inv h; obtain ⟨b1, rfl, h⟩ := h
  replace h := popS_inv h; obtain ⟨v5, e6, rfl, h⟩ := h
  replace h := asI_inv h; obtain ⟨i5, rfl, h⟩ := h
  replace h := popN_inv h; obtain ⟨rfl, h⟩ := h
  replace h := popN_inv h; obtain ⟨rfl, h⟩ := h
  exact ⟨k, (cadastreref1_same_l4_eq0 k K k (a0, b1, i5)).trans h⟩
theorem cadastreref1_same_cok {ρ : Type} (k : Nat) : COK (cadastreref1_same_cfg (ρ := ρ) k) (cadastreref1_same_G k) cadastreref1_same_code :=
  cok_of (tl := [(4, cadastreref1_same_l4_s k)]) (tj := []) (tb := []) rfl rfl rfl (all_nth 1 (by kernel_rfl) ⟨iter_case (by kernel_rfl) rfl (cadastreref1_same_l4_ok0 k), trivial⟩) (nil_all (by kernel_rfl)) (fun p hp => by cases hp)
noncomputable def cadastreref1_same_enc (r : Bool) : AV UU := .pv (.bool r)
noncomputable def cadastreref1_same_dec (v : AV UU) (_ : List (List (AV UU))) : Option Bool :=
asB v fun r0 =>
some r0
theorem cadastreref1_same_dec_enc (v : AV UU) (b : List (List (AV UU))) (r : Bool) (h : cadastreref1_same_dec v b = some r) : v = cadastreref1_same_enc r := by
  unfold cadastreref1_same_dec at h
  replace h := asB_inv h; obtain ⟨r0, rfl, h⟩ := h
  cases h
  rfl
theorem cadastreref1_same_eq (k : Nat) (a0 : List Int) (b1 : List Int) : bodyK UX (cadastreref1_same_cfg k) (cadastreref1_same_G k) Try.f76 [.pv (.typ (.li_u8 a0)), .pv (.typ (.li_u8 b1))] [] cadastreref1_same_dec = cadastreref1_same k a0 b1 := by kernel_rfl
theorem cadastreref1_same_con (k : Nat) (a0 : List Int) (b1 : List Int) (r : Bool) (h : cadastreref1_same k a0 b1 = some r) : Con (X := UX) Try.prog 76 [.pv (.typ (.li_u8 a0)), .pv (.typ (.li_u8 b1))] [] (cadastreref1_same_enc r) [] :=
  con_of_body xok tok Try.func76 cadastreref1_same_body (cadastreref1_same_gok k) rfl (cadastreref1_same_cok k) (of_decide_eq_true (by kernel_rfl)) cadastreref1_same_dec_enc ((cadastreref1_same_eq k a0 b1).trans h)
noncomputable def cadastreref1_same_an {ρ : Type} (k : Nat) : An UX ρ := fun args bx K =>
popA args fun v1 a2 =>
as_li_u8 v1 fun a0 =>
popA a2 fun v3 a4 =>
as_li_u8 v3 fun b1 =>
popN a4 <|
popN bx <|
(cadastreref1_same k a0 b1).bind fun r => K (cadastreref1_same_enc r) []
theorem cadastreref1_same_ok {ρ : Type} (k : Nat) : AnsOK Try.prog 76 (cadastreref1_same_an (ρ := ρ) k) := by
  intro args bx K r h
  unfold cadastreref1_same_an at h
  replace h := popA_inv h; obtain ⟨v1, a2, rfl, h⟩ := h
  replace h := as_li_u8_inv h; obtain ⟨a0, rfl, h⟩ := h
  replace h := popA_inv h; obtain ⟨v3, a4, rfl, h⟩ := h
  replace h := as_li_u8_inv h; obtain ⟨b1, rfl, h⟩ := h
  replace h := popN_inv h; obtain ⟨rfl, h⟩ := h
  replace h := popN_inv h; obtain ⟨rfl, h⟩ := h
  replace h := bind_inv h
  obtain ⟨x, hx, h⟩ := h
  exact ⟨there_of Try.func76 (by kernel_rfl) cadastreref1_same_body, _, _, h, cadastreref1_same_con k a0 b1 x hx⟩

/-! cadastre/cadastreref1.Get -/
noncomputable def cadastreref1_Get_code : Code := match Try.f58.body with | some c => c | none => .skip
theorem cadastreref1_Get_body : Try.f58.body = some cadastreref1_Get_code := by kernel_rfl
noncomputable def cadastreref1_Get_G {ρ : Type} (k : Nat) : Ans UX ρ := gk 51 (cadastreref1_Put_an k) (gk 76 (cadastreref1_same_an k) (gnil))
theorem cadastreref1_Get_gok {ρ : Type} (k : Nat) : GOK Try.prog (cadastreref1_Get_G (ρ := ρ) k) := gok_cons (cadastreref1_Put_ok k) (gok_cons (cadastreref1_same_ok k) (gok_nil))
noncomputable def cadastreref1_Get_j9_s {ρ : Type} (k : Nat) : Run UX ρ := fun s K =>
popS 0 s.env fun v1 e2 =>
as_li_u8 v1 fun b0 =>
popS 4 e2 fun v3 e4 =>
asI .u64 v3 fun n4 =>
popS 5 e4 fun v5 e6 =>
asI .i64 v5 fun i5 =>
popN e6 <|
popN s.hp <|
cadastreref1_Get_j9 k (fun t2 t3 => K .ret ⟨[(2, .pv (.int .u64 t2)), (3, .pv (.int .i64 t3))], []⟩) b0 n4 i5
noncomputable def cadastreref1_Get_j8_s {ρ : Type} (k : Nat) : Run UX ρ := fun s K =>
popS 0 s.env fun v1 e2 =>
as_li_u8 v1 fun b0 =>
popS 4 e2 fun v3 e4 =>
asI .u64 v3 fun n4 =>
popS 5 e4 fun v5 e6 =>
asI .i64 v5 fun i5 =>
popN e6 <|
popN s.hp <|
cadastreref1_Get_j8 k (fun t2 t3 => K .ret ⟨[(2, .pv (.int .u64 t2)), (3, .pv (.int .i64 t3))], []⟩) (fun b0 n4 i5 => K .nxt ⟨[(0, .pv (.typ (.li_u8 b0))), (4, .pv (.int .u64 n4)), (5, .pv (.int .i64 i5))], []⟩) b0 n4 i5
noncomputable def cadastreref1_Get_j5_s {ρ : Type} (k : Nat) : Run UX ρ := fun s K =>
popS 0 s.env fun v1 e2 =>
as_li_u8 v1 fun b0 =>
popS 4 e2 fun v3 e4 =>
asI .u64 v3 fun n4 =>
popS 5 e4 fun v5 e6 =>
asI .i64 v5 fun i5 =>
popN e6 <|
popN s.hp <|
cadastreref1_Get_j5 k (fun t2 t3 => K .ret ⟨[(2, .pv (.int .u64 t2)), (3, .pv (.int .i64 t3))], []⟩) (fun b0 n4 i5 => K .nxt ⟨[(0, .pv (.typ (.li_u8 b0))), (4, .pv (.int .u64 n4)), (5, .pv (.int .i64 i5))], []⟩) b0 n4 i5
noncomputable def cadastreref1_Get_l3_s {ρ : Type} (k : Nat) : Run UX ρ := fun s K =>
popS 0 s.env fun v1 e2 =>
as_li_u8 v1 fun b0 =>
popS 4 e2 fun v3 e4 =>
asI .u64 v3 fun n4 =>
popS 5 e4 fun v5 e6 =>
asI .i64 v5 fun i5 =>
popN e6 <|
popN s.hp <|
cadastreref1_Get_l3 k (fun t2 t3 => K .ret ⟨[(2, .pv (.int .u64 t2)), (3, .pv (.int .i64 t3))], []⟩) (K (.exit 0) ⟨[], []⟩) k b0 n4 i5
noncomputable def cadastreref1_Get_cfg {ρ : Type} (k : Nat) : Cfg UX ρ where
  live i := (assoc [(0, [0]), (1, [0]), (2, [0, 4]), (3, [0, 4, 5]), (4, [0, 4, 5]), (5, [0, 4, 5]), (6, [0, 4, 5]), (7, [0, 4, 5]), (8, [0, 4, 5]), (9, [0, 4, 5]), (10, [4, 5]), (11, []), (12, [])] i).getD []
  boxes i := (assoc [(0, []), (1, []), (2, []), (3, []), (4, []), (5, []), (6, []), (7, []), (8, []), (9, []), (10, []), (11, []), (12, [])] i).getD []
  tk i := (assoc [] i).getD []
  n := 54
  labelR l := (assoc [] l).getD 0
  loops := assoc [(3, cadastreref1_Get_l3_s k)]
  labels := assoc []
  joins := assoc [(9, cadastreref1_Get_j9_s k), (8, cadastreref1_Get_j8_s k), (5, cadastreref1_Get_j5_s k)]
  xl i e := match e with
    | .nxt => assoc [(8, ([0, 4, 5], [])), (5, ([0, 4, 5], []))] i
    | .ret => assoc [(9, ([2, 3], [])), (8, ([2, 3], [])), (5, ([2, 3], [])), (3, ([2, 3], []))] i
    | .exit j => (assoc [(3, [(0, ([], []))])] i).bind fun l => assoc l j
    | .goto j => (assoc [] i).bind fun l => assoc l j
noncomputable def cadastreref1_Get_L : List Code := selI [3] (loopsOf cadastreref1_Get_code)
noncomputable def cadastreref1_Get_J : List Code := selI [9, 8, 5] (joinsOf cadastreref1_Get_code)
noncomputable def cadastreref1_Get_S : List Code := scopesOf cadastreref1_Get_code
theorem cadastreref1_Get_l3_eq0 {ρ : Type} (k : Nat) (K : Ex → St UU → Option ρ) : ∀ (n : Nat) (v : (List Int) × Int × Int), iterK UX (fun s => s.at (cadastreref1_Get_cfg (ρ := ρ) k).live (cadastreref1_Get_cfg (ρ := ρ) k).boxes (some 3)) (exec UX (cadastreref1_Get_cfg k) (cadastreref1_Get_G k) (cadastreref1_Get_L.getD 0 .skip)) n ⟨[(0, .pv (.typ (.li_u8 v.1))), (4, .pv (.int .u64 v.2.1)), (5, .pv (.int .i64 v.2.2))], []⟩ (nrmK UX (cadastreref1_Get_cfg k) 3 K) = cadastreref1_Get_l3 k (fun t2 t3 => K .ret ⟨[(2, .pv (.int .u64 t2)), (3, .pv (.int .i64 t3))], []⟩) (K (.exit 0) ⟨[], []⟩) n v.1 v.2.1 v.2.2 :=
  iter_rec (X := UX) (fun v => ⟨[(0, .pv (.typ (.li_u8 v.1))), (4, .pv (.int .u64 v.2.1)), (5, .pv (.int .i64 v.2.2))], []⟩) (fun rec v => cadastreref1_Get_l3_b k (fun t2 t3 => K .ret ⟨[(2, .pv (.int .u64 t2)), (3, .pv (.int .i64 t3))], []⟩) (K (.exit 0) ⟨[], []⟩) (fun b0 n4 i5 => rec (b0, n4, i5)) v.1 v.2.1 v.2.2) (fun n v => cadastreref1_Get_l3 k (fun t2 t3 => K .ret ⟨[(2, .pv (.int .u64 t2)), (3, .pv (.int .i64 t3))], []⟩) (K (.exit 0) ⟨[], []⟩) n v.1 v.2.1 v.2.2) (fun n v => by kernel_rfl) (fun _ => rfl) (fun _ _ => rfl)
theorem cadastreref1_Get_l3_ok0 {ρ : Type} (k : Nat) : IterOK UX (cadastreref1_Get_cfg (ρ := ρ) k) (cadastreref1_Get_G k) (cadastreref1_Get_L.getD 0 .skip) 3 (cadastreref1_Get_l3_s k) := by
  intro s K r h
  obtain ⟨env, hp⟩ := s
  unfold cadastreref1_Get_l3_s at h
  replace h := popS_inv h; obtain ⟨v1, e2, rfl, h⟩ := h
  replace h := as_li_u8_inv h; obtain ⟨b0, rfl, h⟩ := h
  replace h := popS_inv h; obtain ⟨v3, e4, rfl, h⟩ := h
  replace h := asI_inv h; obtain ⟨n4, rfl, h⟩ := h
  replace h := popS_inv h; obtain ⟨v5, e6, rfl, h⟩ := h
  replace h := asI_inv h; obtain ⟨i5, rfl, h⟩ := h
  replace h := popN_inv h; obtain ⟨rfl, h⟩ := h
  replace h := popN_inv h; obtain ⟨rfl, h⟩ := h
  exact ⟨k, (cadastreref1_Get_l3_eq0 k K k (b0, n4, i5)).trans h⟩
theorem cadastreref1_Get_j5_eq0 {ρ : Type} (k : Nat) (K : Ex → St UU → Option ρ) (b0 : List Int) (n4 : Int) (i5 : Int) : exec UX (cadastreref1_Get_cfg k) (cadastreref1_Get_G k) (cadastreref1_Get_J.getD 0 .skip) ⟨[(0, .pv (.typ (.li_u8 b0))), (4, .pv (.int .u64 n4)), (5, .pv (.int .i64 i5))], []⟩ (nrmK UX (cadastreref1_Get_cfg k) 5 K) = cadastreref1_Get_j5 k (fun t2 t3 => K .ret ⟨[(2, .pv (.int .u64 t2)), (3, .pv (.int .i64 t3))], []⟩) (fun b0 n4 i5 => K .nxt ⟨[(0, .pv (.typ (.li_u8 b0))), (4, .pv (.int .u64 n4)), (5, .pv (.int .i64 i5))], []⟩) b0 n4 i5 := by kernel_rfl
theorem cadastreref1_Get_j5_ok0 {ρ : Type} (k : Nat) : JoinOK UX (cadastreref1_Get_cfg (ρ := ρ) k) (cadastreref1_Get_G k) (cadastreref1_Get_J.getD 0 .skip) 5 (cadastreref1_Get_j5_s k) := by
  intro s K r h
  obtain ⟨env, hp⟩ := s
  unfold cadastreref1_Get_j5_s at h
  replace h := popS_inv h; obtain ⟨v1, e2, rfl, h⟩ := h
  replace h := as_li_u8_inv h; obtain ⟨b0, rfl, h⟩ := h
  replace h := popS_inv h; obtain ⟨v3, e4, rfl, h⟩ := h
  replace h := asI_inv h; obtain ⟨n4, rfl, h⟩ := h
  replace h := popS_inv h; obtain ⟨v5, e6, rfl, h⟩ := h
  replace h := asI_inv h; obtain ⟨i5, rfl, h⟩ := h
  replace h := popN_inv h; obtain ⟨rfl, h⟩ := h
  replace h := popN_inv h; obtain ⟨rfl, h⟩ := h
  exact (cadastreref1_Get_j5_eq0 k K b0 n4 i5).trans h
theorem cadastreref1_Get_j8_eq1 {ρ : Type} (k : Nat) (K : Ex → St UU → Option ρ) (b0 : List Int) (n4 : Int) (i5 : Int) : exec UX (cadastreref1_Get_cfg k) (cadastreref1_Get_G k) (cadastreref1_Get_J.getD 1 .skip) ⟨[(0, .pv (.typ (.li_u8 b0))), (4, .pv (.int .u64 n4)), (5, .pv (.int .i64 i5))], []⟩ (nrmK UX (cadastreref1_Get_cfg k) 8 K) = cadastreref1_Get_j8 k (fun t2 t3 => K .ret ⟨[(2, .pv (.int .u64 t2)), (3, .pv (.int .i64 t3))], []⟩) (fun b0 n4 i5 => K .nxt ⟨[(0, .pv (.typ (.li_u8 b0))), (4, .pv (.int .u64 n4)), (5, .pv (.int .i64 i5))], []⟩) b0 n4 i5 := by kernel_rfl
theorem cadastreref1_Get_j8_ok1 {ρ : Type} (k : Nat) : JoinOK UX (cadastreref1_Get_cfg (ρ := ρ) k) (cadastreref1_Get_G k) (cadastreref1_Get_J.getD 1 .skip) 8 (cadastreref1_Get_j8_s k) := by
  intro s K r h
  obtain ⟨env, hp⟩ := s
  unfold cadastreref1_Get_j8_s at h
  replace h := popS_inv h; obtain ⟨v1, e2, rfl, h⟩ := h
  replace h := as_li_u8_inv h; obtain ⟨b0, rfl, h⟩ := h
  replace h := popS_inv h; obtain ⟨v3, e4, rfl, h⟩ := h
  replace h := asI_inv h; obtain ⟨n4, rfl, h⟩ := h
  replace h := popS_inv h; obtain ⟨v5, e6, rfl, h⟩ := h
  replace h := asI_inv h; obtain ⟨i5, rfl, h⟩ := h
  replace h := popN_inv h; obtain ⟨rfl, h⟩ := h
  replace h := popN_inv h; obtain ⟨rfl, h⟩ := h
  exact (cadastreref1_Get_j8_eq1 k K b0 n4 i5).trans h
theorem cadastreref1_Get_j9_eq2 {ρ : Type} (k : Nat) (K : Ex → St UU → Option ρ) (b0 : List Int) (n4 : Int) (i5 : Int) : exec UX (cadastreref1_Get_cfg k) (cadastreref1_Get_G k) (cadastreref1_Get_J.getD 2 .skip) ⟨[(0, .pv (.typ (.li_u8 b0))), (4, .pv (.int .u64 n4)), (5, .pv (.int .i64 i5))], []⟩ (nrmK UX (cadastreref1_Get_cfg k) 9 K) = cadastreref1_Get_j9 k (fun t2 t3 => K .ret ⟨[(2, .pv (.int .u64 t2)), (3, .pv (.int .i64 t3))], []⟩) b0 n4 i5 := by kernel_rfl
theorem cadastreref1_Get_j9_ok2 {ρ : Type} (k : Nat) : JoinOK UX (cadastreref1_Get_cfg (ρ := ρ) k) (cadastreref1_Get_G k) (cadastreref1_Get_J.getD 2 .skip) 9 (cadastreref1_Get_j9_s k) := by
  intro s K r h
  obtain ⟨env, hp⟩ := s
  unfold cadastreref1_Get_j9_s at h
  replace h := popS_inv h; obtain ⟨v1, e2, rfl, h⟩ := h
  replace h := as_li_u8_inv h; obtain ⟨b0, rfl, h⟩ := h
  replace h := popS_inv h; obtain ⟨v3, e4, rfl, h⟩ := h
  replace h := asI_inv h; obtain ⟨n4, rfl, h⟩ := h
  replace h := popS_inv h; obtain ⟨v5, e6, rfl, h⟩ := h
  replace h := asI_inv h; obtain ⟨i5, rfl, h⟩ := h
  replace h := popN_inv h; obtain ⟨rfl, h⟩ := h
  replace h := popN_inv h; obtain ⟨rfl, h⟩ := h
  exact (cadastreref1_Get_j9_eq2 k K b0 n4 i5).trans h
theorem cadastreref1_Get_cok {ρ : Type} (k : Nat) : COK (cadastreref1_Get_cfg (ρ := ρ) k) (cadastreref1_Get_G k) cadastreref1_Get_code :=
  cok_of (tl := [(3, cadastreref1_Get_l3_s k)]) (tj := [(9, cadastreref1_Get_j9_s k), (8, cadastreref1_Get_j8_s k), (5, cadastreref1_Get_j5_s k)]) (tb := []) rfl rfl rfl (all_nth 1 (by kernel_rfl) ⟨iter_case (by kernel_rfl) rfl (cadastreref1_Get_l3_ok0 k), trivial⟩) (all_nth 3 (by kernel_rfl) ⟨join_case (by kernel_rfl) rfl (cadastreref1_Get_j9_ok2 k), join_case (by kernel_rfl) rfl (cadastreref1_Get_j8_ok1 k), join_case (by kernel_rfl) rfl (cadastreref1_Get_j5_ok0 k), trivial⟩) (fun p hp => by cases hp)
noncomputable def cadastreref1_Get_enc (r : Int × Int) : AV UU := .pv (.tup [.int .u64 r.1, .int .i64 r.2])
noncomputable def cadastreref1_Get_dec (v : AV UU) (_ : List (List (AV UU))) : Option (Int × Int) :=
asT v fun q1 =>
popA q1 fun p2 q3 =>
asI .u64 (.pv p2) fun r0 =>
popA q3 fun p4 q5 =>
asI .i64 (.pv p4) fun r1 =>
popN q5 <|
some (r0, r1)
theorem cadastreref1_Get_dec_enc (v : AV UU) (b : List (List (AV UU))) (r : Int × Int) (h : cadastreref1_Get_dec v b = some r) : v = cadastreref1_Get_enc r := by
  unfold cadastreref1_Get_dec at h
  replace h := asT_inv h; obtain ⟨q1, rfl, h⟩ := h
  replace h := popA_inv h; obtain ⟨p2, q3, rfl, h⟩ := h
  replace h := asI_inv h; obtain ⟨r0, e, h⟩ := h; cases e
  replace h := popA_inv h; obtain ⟨p4, q5, rfl, h⟩ := h
  replace h := asI_inv h; obtain ⟨r1, e, h⟩ := h; cases e
  replace h := popN_inv h; obtain ⟨rfl, h⟩ := h
  cases h
  rfl
theorem cadastreref1_Get_eq (k : Nat) (b0 : List Int) : bodyK UX (cadastreref1_Get_cfg k) (cadastreref1_Get_G k) Try.f58 [.pv (.typ (.li_u8 b0))] [] cadastreref1_Get_dec = cadastreref1_Get k b0 := by kernel_rfl
theorem cadastreref1_Get_con (k : Nat) (b0 : List Int) (r : Int × Int) (h : cadastreref1_Get k b0 = some r) : Con (X := UX) Try.prog 58 [.pv (.typ (.li_u8 b0))] [] (cadastreref1_Get_enc r) [] :=
  con_of_body xok tok Try.func58 cadastreref1_Get_body (cadastreref1_Get_gok k) rfl (cadastreref1_Get_cok k) (of_decide_eq_true (by kernel_rfl)) cadastreref1_Get_dec_enc ((cadastreref1_Get_eq k b0).trans h)
noncomputable def cadastreref1_Get_an {ρ : Type} (k : Nat) : An UX ρ := fun args bx K =>
popA args fun v1 a2 =>
as_li_u8 v1 fun b0 =>
popN a2 <|
popN bx <|
(cadastreref1_Get k b0).bind fun r => K (cadastreref1_Get_enc r) []
theorem cadastreref1_Get_ok {ρ : Type} (k : Nat) : AnsOK Try.prog 58 (cadastreref1_Get_an (ρ := ρ) k) := by
  intro args bx K r h
  unfold cadastreref1_Get_an at h
  replace h := popA_inv h; obtain ⟨v1, a2, rfl, h⟩ := h
  replace h := as_li_u8_inv h; obtain ⟨b0, rfl, h⟩ := h
  replace h := popN_inv h; obtain ⟨rfl, h⟩ := h
  replace h := popN_inv h; obtain ⟨rfl, h⟩ := h
  replace h := bind_inv h
  obtain ⟨x, hx, h⟩ := h
  exact ⟨there_of Try.func58 (by kernel_rfl) cadastreref1_Get_body, _, _, h, cadastreref1_Get_con k b0 x hx⟩

/-! cadastre/cadastreref2.Int -/
noncomputable def cadastreref2_Int_code : Code := match Try.f99.body with | some c => c | none => .skip
theorem cadastreref2_Int_body : Try.f99.body = some cadastreref2_Int_code := by kernel_rfl
noncomputable def cadastreref2_Int_G {ρ : Type} (k : Nat) : Ans UX ρ := gnil
theorem cadastreref2_Int_gok {ρ : Type} (k : Nat) : GOK Try.prog (cadastreref2_Int_G (ρ := ρ) k) := gok_nil
noncomputable def cadastreref2_Int_cfg {ρ : Type} (k : Nat) : Cfg UX ρ where
  live i := (assoc [(0, [0]), (1, [0, 2])] i).getD []
  boxes i := (assoc [(0, []), (1, [2])] i).getD []
  tk i := (assoc [] i).getD []
  n := 5
  labelR l := (assoc [] l).getD 0
  loops := assoc []
  labels := assoc []
  joins := assoc []
  xl i e := match e with
    | .nxt => assoc [] i
    | .ret => assoc [] i
    | .exit j => (assoc [] i).bind fun l => assoc l j
    | .goto j => (assoc [] i).bind fun l => assoc l j
noncomputable def cadastreref2_Int_L : List Code := selI [] (loopsOf cadastreref2_Int_code)
noncomputable def cadastreref2_Int_J : List Code := selI [] (joinsOf cadastreref2_Int_code)
noncomputable def cadastreref2_Int_S : List Code := scopesOf cadastreref2_Int_code
theorem cadastreref2_Int_cok {ρ : Type} (k : Nat) : COK (cadastreref2_Int_cfg (ρ := ρ) k) (cadastreref2_Int_G k) cadastreref2_Int_code :=
  cok_of (tl := []) (tj := []) (tb := []) rfl rfl rfl (nil_all (by kernel_rfl)) (nil_all (by kernel_rfl)) (fun p hp => by cases hp)
noncomputable def cadastreref2_Int_enc (r : S44) : AV UU := .pv (.typ (.s44 r))
noncomputable def cadastreref2_Int_dec (v : AV UU) (_ : List (List (AV UU))) : Option S44 :=
as_s44 v fun r0 =>
some r0
theorem cadastreref2_Int_dec_enc (v : AV UU) (b : List (List (AV UU))) (r : S44) (h : cadastreref2_Int_dec v b = some r) : v = cadastreref2_Int_enc r := by
  unfold cadastreref2_Int_dec at h
  replace h := as_s44_inv h; obtain ⟨r0, rfl, h⟩ := h
  cases h
  rfl
theorem cadastreref2_Int_eq (k : Nat) (n0 : Int) : bodyK UX (cadastreref2_Int_cfg k) (cadastreref2_Int_G k) Try.f99 [.pv (.int .i64 n0)] [] cadastreref2_Int_dec = cadastreref2_Int k n0 := by kernel_rfl
theorem cadastreref2_Int_con (k : Nat) (n0 : Int) (r : S44) (h : cadastreref2_Int k n0 = some r) : Con (X := UX) Try.prog 99 [.pv (.int .i64 n0)] [] (cadastreref2_Int_enc r) [] :=
  con_of_body xok tok Try.func99 cadastreref2_Int_body (cadastreref2_Int_gok k) rfl (cadastreref2_Int_cok k) (of_decide_eq_true (by kernel_rfl)) cadastreref2_Int_dec_enc ((cadastreref2_Int_eq k n0).trans h)
noncomputable def cadastreref2_Int_an {ρ : Type} (k : Nat) : An UX ρ := fun args bx K =>
popA args fun v1 a2 =>
asI .i64 v1 fun n0 =>
popN a2 <|
popN bx <|
(cadastreref2_Int k n0).bind fun r => K (cadastreref2_Int_enc r) []
theorem cadastreref2_Int_ok {ρ : Type} (k : Nat) : AnsOK Try.prog 99 (cadastreref2_Int_an (ρ := ρ) k) := by
  intro args bx K r h
  unfold cadastreref2_Int_an at h
  replace h := popA_inv h; obtain ⟨v1, a2, rfl, h⟩ := h
  replace h := asI_inv h; obtain ⟨n0, rfl, h⟩ := h
  replace h := popN_inv h; obtain ⟨rfl, h⟩ := h
  replace h := popN_inv h; obtain ⟨rfl, h⟩ := h
  replace h := bind_inv h
  obtain ⟨x, hx, h⟩ := h
  exact ⟨there_of Try.func99 (by kernel_rfl) cadastreref2_Int_body, _, _, h, cadastreref2_Int_con k n0 x hx⟩
end Go.Proofs.Ytekjibpkkgldgaa.R
