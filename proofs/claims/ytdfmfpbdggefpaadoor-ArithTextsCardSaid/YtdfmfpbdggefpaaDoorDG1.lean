/-
  What the program's functions answer: the printed functions' answers.
-/
import Derived.Test.YtdfmfpbdggefpaaDoorDG0
namespace Go.Proofs.YtdfmfpbdggefpaaDoor.D
open Go Go.AX
/-! cadastre/cadastreref4.Int -/
noncomputable def cadastreref4_Int_code : Code := match Tryd.f9.body with | some c => c | none => .skip
theorem cadastreref4_Int_body : Tryd.f9.body = some cadastreref4_Int_code := by kernel_rfl
noncomputable def cadastreref4_Int_G {ρ : Type} (k : Nat) : Ans UX ρ := gk 29 (cadastreref2_Int_an k) (gk 28 (cadastreref4_Do_an k) (gnil))
theorem cadastreref4_Int_gok {ρ : Type} (k : Nat) : GOK Tryd.prog (cadastreref4_Int_G (ρ := ρ) k) := gok_cons (cadastreref2_Int_ok k) (gok_cons (cadastreref4_Do_ok k) (gok_nil))
noncomputable def cadastreref4_Int_l8_s {ρ : Type} (k : Nat) : Run UX ρ := fun s K =>
popS 0 s.env fun v1 e2 =>
asS v1 fun s0 =>
popS 4 e2 fun v3 e4 =>
asI .i64 v3 fun i4 =>
popS 5 e4 fun v5 e6 =>
asB v5 fun minus5 =>
popS 6 e6 fun v7 e8 =>
asI .i64 v7 fun k6 =>
popN e8 <|
popN s.hp <|
cadastreref4_Int_l8 k (fun t2 t3 => K .ret ⟨[(2, .pv (.int .i64 t2)), (3, .pv (.int .i64 t3))], []⟩) (fun s0 i4 minus5 => K (.exit 0) ⟨[(0, .pv (.str s0)), (4, .pv (.int .i64 i4)), (5, .pv (.bool minus5))], []⟩) k s0 i4 minus5 k6
noncomputable def cadastreref4_Int_l18_s {ρ : Type} (k : Nat) : Run UX ρ := fun s K =>
popS 0 s.env fun v1 e2 =>
asS v1 fun s0 =>
popS 7 e2 fun v3 e4 =>
asP 7 0 v3 <|
popS 9 e4 fun v5 e6 =>
asI .i64 v5 fun op9 =>
popS 10 e6 fun v7 e8 =>
asI .i64 v7 fun k10 =>
popN e8 <|
popB 7 s.hp fun c9 e10 =>
popA c9 fun v11 c12 =>
asI .i64 v11 fun z13 =>
popA c12 fun v14 c15 =>
asI .i64 v14 fun z16 =>
popA c15 fun v17 c18 =>
asS v17 fun z19 =>
popN c18 <|
popN e10 <|
cadastreref4_Int_l18 k (fun t2 t3 => K .ret ⟨[(2, .pv (.int .i64 t2)), (3, .pv (.int .i64 t3))], []⟩) (fun n7 => K (.exit 2) ⟨[(7, .ptr 7 0)], [(7, [.pv (.int .i64 n7.f0), .pv (.int .i64 n7.f1), .pv (.str n7.f2)])]⟩) k s0 op9 k10 (⟨z13, z16, z19⟩ : S23)
noncomputable def cadastreref4_Int_j17_s {ρ : Type} (k : Nat) : Run UX ρ := fun s K =>
popS 0 s.env fun v1 e2 =>
asS v1 fun s0 =>
popS 4 e2 fun v3 e4 =>
asI .i64 v3 fun i4 =>
popS 7 e4 fun v5 e6 =>
asP 7 0 v5 <|
popS 9 e6 fun v7 e8 =>
asI .i64 v7 fun op9 =>
popN e8 <|
popB 7 s.hp fun c9 e10 =>
popA c9 fun v11 c12 =>
asI .i64 v11 fun z13 =>
popA c12 fun v14 c15 =>
asI .i64 v14 fun z16 =>
popA c15 fun v17 c18 =>
asS v17 fun z19 =>
popN c18 <|
popN e10 <|
cadastreref4_Int_j17 k (fun t2 t3 => K .ret ⟨[(2, .pv (.int .i64 t2)), (3, .pv (.int .i64 t3))], []⟩) s0 i4 op9 (⟨z13, z16, z19⟩ : S23)
noncomputable def cadastreref4_Int_j5_s {ρ : Type} (k : Nat) : Run UX ρ := fun s K =>
popS 0 s.env fun v1 e2 =>
asS v1 fun s0 =>
popS 4 e2 fun v3 e4 =>
asI .i64 v3 fun i4 =>
popS 5 e4 fun v5 e6 =>
asB v5 fun minus5 =>
popN e6 <|
popN s.hp <|
cadastreref4_Int_j5 k (fun t2 t3 => K .ret ⟨[(2, .pv (.int .i64 t2)), (3, .pv (.int .i64 t3))], []⟩) s0 i4 minus5
noncomputable def cadastreref4_Int_j3_s {ρ : Type} (k : Nat) : Run UX ρ := fun s K =>
popS 0 s.env fun v1 e2 =>
asS v1 fun s0 =>
popS 4 e2 fun v3 e4 =>
asI .i64 v3 fun i4 =>
popS 5 e4 fun v5 e6 =>
asB v5 fun minus5 =>
popN e6 <|
popN s.hp <|
cadastreref4_Int_j3 k (fun t2 t3 => K .ret ⟨[(2, .pv (.int .i64 t2)), (3, .pv (.int .i64 t3))], []⟩) s0 i4 minus5
noncomputable def cadastreref4_Int_cfg {ρ : Type} (k : Nat) : Cfg UX ρ where
  live i := (assoc [(0, [0]), (1, [0]), (2, [0, 4]), (3, [0, 4, 5]), (4, [0, 5]), (5, [0, 4, 5]), (6, []), (7, [0, 4, 5]), (8, [0, 4, 5, 6]), (9, [0, 4, 5, 6]), (10, [0, 4, 5, 6]), (11, []), (12, [0, 4, 5]), (13, [0, 4, 5, 7]), (14, [0, 4, 5, 7]), (15, [0, 4, 5, 7, 9]), (16, [0, 4, 7]), (17, [0, 4, 7, 9]), (18, [0, 7, 9, 10]), (19, [0, 7, 9, 10]), (20, [0, 7, 9, 10]), (21, [0, 7, 8, 9, 10]), (22, [0, 7, 9, 10]), (23, [0, 7, 8, 9, 10]), (24, [8]), (25, [7])] i).getD []
  boxes i := (assoc [(0, []), (1, []), (2, []), (3, []), (4, []), (5, []), (6, []), (7, []), (8, []), (9, []), (10, []), (11, []), (12, []), (13, [7]), (14, [7]), (15, [7]), (16, [7]), (17, [7]), (18, [7]), (19, [7]), (20, [7]), (21, [7]), (22, [7]), (23, [7]), (24, []), (25, [7])] i).getD []
  tk i := (assoc [] i).getD []
  n := 85
  labelR l := (assoc [] l).getD 0
  loops := assoc [(8, cadastreref4_Int_l8_s k), (18, cadastreref4_Int_l18_s k)]
  labels := assoc []
  joins := assoc [(17, cadastreref4_Int_j17_s k), (5, cadastreref4_Int_j5_s k), (3, cadastreref4_Int_j3_s k)]
  xl i e := match e with
    | .nxt => assoc [] i
    | .ret => assoc [(8, ([2, 3], [])), (18, ([2, 3], [])), (17, ([2, 3], [])), (5, ([2, 3], [])), (3, ([2, 3], []))] i
    | .exit j => (assoc [(8, [(0, ([0, 4, 5], []))]), (18, [(2, ([7], [7]))])] i).bind fun l => assoc l j
    | .goto j => (assoc [] i).bind fun l => assoc l j
noncomputable def cadastreref4_Int_L : List Code := selI [8, 18] (loopsOf cadastreref4_Int_code)
noncomputable def cadastreref4_Int_J : List Code := selI [17, 5, 3] (joinsOf cadastreref4_Int_code)
noncomputable def cadastreref4_Int_S : List Code := scopesOf cadastreref4_Int_code
theorem cadastreref4_Int_l8_eq0 {ρ : Type} (k : Nat) (K : Ex → St UU → Option ρ) : ∀ (n : Nat) (v : ByteArray × Int × Bool × Int), iterK UX (fun s => s.at (cadastreref4_Int_cfg (ρ := ρ) k).live (cadastreref4_Int_cfg (ρ := ρ) k).boxes (some 8)) (exec UX (cadastreref4_Int_cfg k) (cadastreref4_Int_G k) (cadastreref4_Int_L.getD 0 .skip)) n ⟨[(0, .pv (.str v.1)), (4, .pv (.int .i64 v.2.1)), (5, .pv (.bool v.2.2.1)), (6, .pv (.int .i64 v.2.2.2))], []⟩ (nrmK UX (cadastreref4_Int_cfg k) 8 K) = cadastreref4_Int_l8 k (fun t2 t3 => K .ret ⟨[(2, .pv (.int .i64 t2)), (3, .pv (.int .i64 t3))], []⟩) (fun s0 i4 minus5 => K (.exit 0) ⟨[(0, .pv (.str s0)), (4, .pv (.int .i64 i4)), (5, .pv (.bool minus5))], []⟩) n v.1 v.2.1 v.2.2.1 v.2.2.2 :=
  iter_rec (X := UX) (fun v => ⟨[(0, .pv (.str v.1)), (4, .pv (.int .i64 v.2.1)), (5, .pv (.bool v.2.2.1)), (6, .pv (.int .i64 v.2.2.2))], []⟩) (fun rec v => cadastreref4_Int_l8_b k (fun t2 t3 => K .ret ⟨[(2, .pv (.int .i64 t2)), (3, .pv (.int .i64 t3))], []⟩) (fun s0 i4 minus5 => K (.exit 0) ⟨[(0, .pv (.str s0)), (4, .pv (.int .i64 i4)), (5, .pv (.bool minus5))], []⟩) (fun s0 i4 minus5 k6 => rec (s0, i4, minus5, k6)) v.1 v.2.1 v.2.2.1 v.2.2.2) (fun n v => cadastreref4_Int_l8 k (fun t2 t3 => K .ret ⟨[(2, .pv (.int .i64 t2)), (3, .pv (.int .i64 t3))], []⟩) (fun s0 i4 minus5 => K (.exit 0) ⟨[(0, .pv (.str s0)), (4, .pv (.int .i64 i4)), (5, .pv (.bool minus5))], []⟩) n v.1 v.2.1 v.2.2.1 v.2.2.2) (fun n v => by kernel_rfl) (fun _ => rfl) (fun _ _ => rfl)
theorem cadastreref4_Int_l8_ok0 {ρ : Type} (k : Nat) : IterOK UX (cadastreref4_Int_cfg (ρ := ρ) k) (cadastreref4_Int_G k) (cadastreref4_Int_L.getD 0 .skip) 8 (cadastreref4_Int_l8_s k) := by
  intro s K r h
  obtain ⟨env, hp⟩ := s
  unfold cadastreref4_Int_l8_s at h
  replace h := popS_inv h; obtain ⟨v1, e2, rfl, h⟩ := h
  replace h := asS_inv h; obtain ⟨s0, rfl, h⟩ := h
  replace h := popS_inv h; obtain ⟨v3, e4, rfl, h⟩ := h
  replace h := asI_inv h; obtain ⟨i4, rfl, h⟩ := h
  replace h := popS_inv h; obtain ⟨v5, e6, rfl, h⟩ := h
  replace h := asB_inv h; obtain ⟨minus5, rfl, h⟩ := h
  replace h := popS_inv h; obtain ⟨v7, e8, rfl, h⟩ := h
  replace h := asI_inv h; obtain ⟨k6, rfl, h⟩ := h
  replace h := popN_inv h; obtain ⟨rfl, h⟩ := h
  replace h := popN_inv h; obtain ⟨rfl, h⟩ := h
  exact ⟨k, (cadastreref4_Int_l8_eq0 k K k (s0, i4, minus5, k6)).trans h⟩
theorem cadastreref4_Int_l18_eq1 {ρ : Type} (k : Nat) (K : Ex → St UU → Option ρ) : ∀ (n : Nat) (v : ByteArray × Int × Int × S23), iterK UX (fun s => s.at (cadastreref4_Int_cfg (ρ := ρ) k).live (cadastreref4_Int_cfg (ρ := ρ) k).boxes (some 18)) (exec UX (cadastreref4_Int_cfg k) (cadastreref4_Int_G k) (cadastreref4_Int_L.getD 1 .skip)) n ⟨[(0, .pv (.str v.1)), (7, .ptr 7 0), (9, .pv (.int .i64 v.2.1)), (10, .pv (.int .i64 v.2.2.1))], [(7, [.pv (.int .i64 v.2.2.2.f0), .pv (.int .i64 v.2.2.2.f1), .pv (.str v.2.2.2.f2)])]⟩ (nrmK UX (cadastreref4_Int_cfg k) 18 K) = cadastreref4_Int_l18 k (fun t2 t3 => K .ret ⟨[(2, .pv (.int .i64 t2)), (3, .pv (.int .i64 t3))], []⟩) (fun n7 => K (.exit 2) ⟨[(7, .ptr 7 0)], [(7, [.pv (.int .i64 n7.f0), .pv (.int .i64 n7.f1), .pv (.str n7.f2)])]⟩) n v.1 v.2.1 v.2.2.1 v.2.2.2 :=
  iter_rec (X := UX) (fun v => ⟨[(0, .pv (.str v.1)), (7, .ptr 7 0), (9, .pv (.int .i64 v.2.1)), (10, .pv (.int .i64 v.2.2.1))], [(7, [.pv (.int .i64 v.2.2.2.f0), .pv (.int .i64 v.2.2.2.f1), .pv (.str v.2.2.2.f2)])]⟩) (fun rec v => cadastreref4_Int_l18_b k (fun t2 t3 => K .ret ⟨[(2, .pv (.int .i64 t2)), (3, .pv (.int .i64 t3))], []⟩) (fun n7 => K (.exit 2) ⟨[(7, .ptr 7 0)], [(7, [.pv (.int .i64 n7.f0), .pv (.int .i64 n7.f1), .pv (.str n7.f2)])]⟩) (fun s0 op9 k10 n7 => rec (s0, op9, k10, n7)) v.1 v.2.1 v.2.2.1 v.2.2.2) (fun n v => cadastreref4_Int_l18 k (fun t2 t3 => K .ret ⟨[(2, .pv (.int .i64 t2)), (3, .pv (.int .i64 t3))], []⟩) (fun n7 => K (.exit 2) ⟨[(7, .ptr 7 0)], [(7, [.pv (.int .i64 n7.f0), .pv (.int .i64 n7.f1), .pv (.str n7.f2)])]⟩) n v.1 v.2.1 v.2.2.1 v.2.2.2) (fun n v => by kernel_rfl) (fun _ => rfl) (fun _ _ => rfl)
theorem cadastreref4_Int_l18_ok1 {ρ : Type} (k : Nat) : IterOK UX (cadastreref4_Int_cfg (ρ := ρ) k) (cadastreref4_Int_G k) (cadastreref4_Int_L.getD 1 .skip) 18 (cadastreref4_Int_l18_s k) := by
  intro s K r h
  obtain ⟨env, hp⟩ := s
  unfold cadastreref4_Int_l18_s at h
  replace h := popS_inv h; obtain ⟨v1, e2, rfl, h⟩ := h
  replace h := asS_inv h; obtain ⟨s0, rfl, h⟩ := h
  replace h := popS_inv h; obtain ⟨v3, e4, rfl, h⟩ := h
  replace h := asP_inv h; obtain ⟨rfl, h⟩ := h
  replace h := popS_inv h; obtain ⟨v5, e6, rfl, h⟩ := h
  replace h := asI_inv h; obtain ⟨op9, rfl, h⟩ := h
  replace h := popS_inv h; obtain ⟨v7, e8, rfl, h⟩ := h
  replace h := asI_inv h; obtain ⟨k10, rfl, h⟩ := h
  replace h := popN_inv h; obtain ⟨rfl, h⟩ := h
  replace h := popB_inv h; obtain ⟨c9, e10, rfl, h⟩ := h
  replace h := popA_inv h; obtain ⟨v11, c12, rfl, h⟩ := h
  replace h := asI_inv h; obtain ⟨z13, rfl, h⟩ := h
  replace h := popA_inv h; obtain ⟨v14, c15, rfl, h⟩ := h
  replace h := asI_inv h; obtain ⟨z16, rfl, h⟩ := h
  replace h := popA_inv h; obtain ⟨v17, c18, rfl, h⟩ := h
  replace h := asS_inv h; obtain ⟨z19, rfl, h⟩ := h
  replace h := popN_inv h; obtain ⟨rfl, h⟩ := h
  replace h := popN_inv h; obtain ⟨rfl, h⟩ := h
  exact ⟨k, (cadastreref4_Int_l18_eq1 k K k (s0, op9, k10, (⟨z13, z16, z19⟩ : S23))).trans h⟩
theorem cadastreref4_Int_j3_eq0 {ρ : Type} (k : Nat) (K : Ex → St UU → Option ρ) (s0 : ByteArray) (i4 : Int) (minus5 : Bool) : exec UX (cadastreref4_Int_cfg k) (cadastreref4_Int_G k) (cadastreref4_Int_J.getD 0 .skip) ⟨[(0, .pv (.str s0)), (4, .pv (.int .i64 i4)), (5, .pv (.bool minus5))], []⟩ (nrmK UX (cadastreref4_Int_cfg k) 3 K) = cadastreref4_Int_j3 k (fun t2 t3 => K .ret ⟨[(2, .pv (.int .i64 t2)), (3, .pv (.int .i64 t3))], []⟩) s0 i4 minus5 := by kernel_rfl
theorem cadastreref4_Int_j3_ok0 {ρ : Type} (k : Nat) : JoinOK UX (cadastreref4_Int_cfg (ρ := ρ) k) (cadastreref4_Int_G k) (cadastreref4_Int_J.getD 0 .skip) 3 (cadastreref4_Int_j3_s k) := by
  intro s K r h
  obtain ⟨env, hp⟩ := s
  unfold cadastreref4_Int_j3_s at h
  replace h := popS_inv h; obtain ⟨v1, e2, rfl, h⟩ := h
  replace h := asS_inv h; obtain ⟨s0, rfl, h⟩ := h
  replace h := popS_inv h; obtain ⟨v3, e4, rfl, h⟩ := h
  replace h := asI_inv h; obtain ⟨i4, rfl, h⟩ := h
  replace h := popS_inv h; obtain ⟨v5, e6, rfl, h⟩ := h
  replace h := asB_inv h; obtain ⟨minus5, rfl, h⟩ := h
  replace h := popN_inv h; obtain ⟨rfl, h⟩ := h
  replace h := popN_inv h; obtain ⟨rfl, h⟩ := h
  exact (cadastreref4_Int_j3_eq0 k K s0 i4 minus5).trans h
theorem cadastreref4_Int_j5_eq1 {ρ : Type} (k : Nat) (K : Ex → St UU → Option ρ) (s0 : ByteArray) (i4 : Int) (minus5 : Bool) : exec UX (cadastreref4_Int_cfg k) (cadastreref4_Int_G k) (cadastreref4_Int_J.getD 1 .skip) ⟨[(0, .pv (.str s0)), (4, .pv (.int .i64 i4)), (5, .pv (.bool minus5))], []⟩ (nrmK UX (cadastreref4_Int_cfg k) 5 K) = cadastreref4_Int_j5 k (fun t2 t3 => K .ret ⟨[(2, .pv (.int .i64 t2)), (3, .pv (.int .i64 t3))], []⟩) s0 i4 minus5 := by kernel_rfl
theorem cadastreref4_Int_j5_ok1 {ρ : Type} (k : Nat) : JoinOK UX (cadastreref4_Int_cfg (ρ := ρ) k) (cadastreref4_Int_G k) (cadastreref4_Int_J.getD 1 .skip) 5 (cadastreref4_Int_j5_s k) := by
  intro s K r h
  obtain ⟨env, hp⟩ := s
  unfold cadastreref4_Int_j5_s at h
  replace h := popS_inv h; obtain ⟨v1, e2, rfl, h⟩ := h
  replace h := asS_inv h; obtain ⟨s0, rfl, h⟩ := h
  replace h := popS_inv h; obtain ⟨v3, e4, rfl, h⟩ := h
  replace h := asI_inv h; obtain ⟨i4, rfl, h⟩ := h
  replace h := popS_inv h; obtain ⟨v5, e6, rfl, h⟩ := h
  replace h := asB_inv h; obtain ⟨minus5, rfl, h⟩ := h
  replace h := popN_inv h; obtain ⟨rfl, h⟩ := h
  replace h := popN_inv h; obtain ⟨rfl, h⟩ := h
  exact (cadastreref4_Int_j5_eq1 k K s0 i4 minus5).trans h
theorem cadastreref4_Int_j17_eq2 {ρ : Type} (k : Nat) (K : Ex → St UU → Option ρ) (s0 : ByteArray) (i4 : Int) (op9 : Int) (n7 : S23) : exec UX (cadastreref4_Int_cfg k) (cadastreref4_Int_G k) (cadastreref4_Int_J.getD 2 .skip) ⟨[(0, .pv (.str s0)), (4, .pv (.int .i64 i4)), (7, .ptr 7 0), (9, .pv (.int .i64 op9))], [(7, [.pv (.int .i64 n7.f0), .pv (.int .i64 n7.f1), .pv (.str n7.f2)])]⟩ (nrmK UX (cadastreref4_Int_cfg k) 17 K) = cadastreref4_Int_j17 k (fun t2 t3 => K .ret ⟨[(2, .pv (.int .i64 t2)), (3, .pv (.int .i64 t3))], []⟩) s0 i4 op9 n7 := by kernel_rfl
theorem cadastreref4_Int_j17_ok2 {ρ : Type} (k : Nat) : JoinOK UX (cadastreref4_Int_cfg (ρ := ρ) k) (cadastreref4_Int_G k) (cadastreref4_Int_J.getD 2 .skip) 17 (cadastreref4_Int_j17_s k) := by
  intro s K r h
  obtain ⟨env, hp⟩ := s
  unfold cadastreref4_Int_j17_s at h
  replace h := popS_inv h; obtain ⟨v1, e2, rfl, h⟩ := h
  replace h := asS_inv h; obtain ⟨s0, rfl, h⟩ := h
  replace h := popS_inv h; obtain ⟨v3, e4, rfl, h⟩ := h
  replace h := asI_inv h; obtain ⟨i4, rfl, h⟩ := h
  replace h := popS_inv h; obtain ⟨v5, e6, rfl, h⟩ := h
  replace h := asP_inv h; obtain ⟨rfl, h⟩ := h
  replace h := popS_inv h; obtain ⟨v7, e8, rfl, h⟩ := h
  replace h := asI_inv h; obtain ⟨op9, rfl, h⟩ := h
  replace h := popN_inv h; obtain ⟨rfl, h⟩ := h
  replace h := popB_inv h; obtain ⟨c9, e10, rfl, h⟩ := h
  replace h := popA_inv h; obtain ⟨v11, c12, rfl, h⟩ := h
  replace h := asI_inv h; obtain ⟨z13, rfl, h⟩ := h
  replace h := popA_inv h; obtain ⟨v14, c15, rfl, h⟩ := h
  replace h := asI_inv h; obtain ⟨z16, rfl, h⟩ := h
  replace h := popA_inv h; obtain ⟨v17, c18, rfl, h⟩ := h
  replace h := asS_inv h; obtain ⟨z19, rfl, h⟩ := h
  replace h := popN_inv h; obtain ⟨rfl, h⟩ := h
  replace h := popN_inv h; obtain ⟨rfl, h⟩ := h
  exact (cadastreref4_Int_j17_eq2 k K s0 i4 op9 (⟨z13, z16, z19⟩ : S23)).trans h
theorem cadastreref4_Int_cok {ρ : Type} (k : Nat) : COK (cadastreref4_Int_cfg (ρ := ρ) k) (cadastreref4_Int_G k) cadastreref4_Int_code :=
  cok_of (tl := [(8, cadastreref4_Int_l8_s k), (18, cadastreref4_Int_l18_s k)]) (tj := [(17, cadastreref4_Int_j17_s k), (5, cadastreref4_Int_j5_s k), (3, cadastreref4_Int_j3_s k)]) (tb := []) rfl rfl rfl (all_nth 2 (by kernel_rfl) ⟨iter_case (by kernel_rfl) rfl (cadastreref4_Int_l18_ok1 k), iter_case (by kernel_rfl) rfl (cadastreref4_Int_l8_ok0 k), trivial⟩) (all_nth 3 (by kernel_rfl) ⟨join_case (by kernel_rfl) rfl (cadastreref4_Int_j17_ok2 k), join_case (by kernel_rfl) rfl (cadastreref4_Int_j5_ok1 k), join_case (by kernel_rfl) rfl (cadastreref4_Int_j3_ok0 k), trivial⟩) (fun p hp => by cases hp)
noncomputable def cadastreref4_Int_enc (r : Int × Int) : AV UU := .pv (.tup [.int .i64 r.1, .int .i64 r.2])
noncomputable def cadastreref4_Int_dec (v : AV UU) (_ : List (List (AV UU))) : Option (Int × Int) :=
asT v fun q1 =>
popA q1 fun p2 q3 =>
asI .i64 (.pv p2) fun r0 =>
popA q3 fun p4 q5 =>
asI .i64 (.pv p4) fun r1 =>
popN q5 <|
some (r0, r1)
theorem cadastreref4_Int_dec_enc (v : AV UU) (b : List (List (AV UU))) (r : Int × Int) (h : cadastreref4_Int_dec v b = some r) : v = cadastreref4_Int_enc r := by
  unfold cadastreref4_Int_dec at h
  replace h := asT_inv h; obtain ⟨q1, rfl, h⟩ := h
  replace h := popA_inv h; obtain ⟨p2, q3, rfl, h⟩ := h
  replace h := asI_inv h; obtain ⟨r0, e, h⟩ := h; cases e
  replace h := popA_inv h; obtain ⟨p4, q5, rfl, h⟩ := h
  replace h := asI_inv h; obtain ⟨r1, e, h⟩ := h; cases e
  replace h := popN_inv h; obtain ⟨rfl, h⟩ := h
  cases h
  rfl
theorem cadastreref4_Int_eq (k : Nat) (s0 : ByteArray) : bodyK UX (cadastreref4_Int_cfg k) (cadastreref4_Int_G k) Tryd.f9 [.pv (.str s0)] [] cadastreref4_Int_dec = cadastreref4_Int k s0 := by kernel_rfl
theorem cadastreref4_Int_con (k : Nat) (s0 : ByteArray) (r : Int × Int) (h : cadastreref4_Int k s0 = some r) : Con (X := UX) Tryd.prog 9 [.pv (.str s0)] [] (cadastreref4_Int_enc r) [] :=
  con_of_body xok tok Tryd.func9 cadastreref4_Int_body (cadastreref4_Int_gok k) rfl (cadastreref4_Int_cok k) (of_decide_eq_true (by kernel_rfl)) cadastreref4_Int_dec_enc ((cadastreref4_Int_eq k s0).trans h)
noncomputable def cadastreref4_Int_an {ρ : Type} (k : Nat) : An UX ρ := fun args bx K =>
popA args fun v1 a2 =>
asS v1 fun s0 =>
popN a2 <|
popN bx <|
(cadastreref4_Int k s0).bind fun r => K (cadastreref4_Int_enc r) []
theorem cadastreref4_Int_ok {ρ : Type} (k : Nat) : AnsOK Tryd.prog 9 (cadastreref4_Int_an (ρ := ρ) k) := by
  intro args bx K r h
  unfold cadastreref4_Int_an at h
  replace h := popA_inv h; obtain ⟨v1, a2, rfl, h⟩ := h
  replace h := asS_inv h; obtain ⟨s0, rfl, h⟩ := h
  replace h := popN_inv h; obtain ⟨rfl, h⟩ := h
  replace h := popN_inv h; obtain ⟨rfl, h⟩ := h
  replace h := bind_inv h
  obtain ⟨x, hx, h⟩ := h
  exact ⟨there_of Tryd.func9 (by kernel_rfl) cadastreref4_Int_body, _, _, h, cadastreref4_Int_con k s0 x hx⟩

/-! cadastre/cadastrelaw5.num -/
noncomputable def cadastrelaw5_num_code : Code := match Tryd.f10.body with | some c => c | none => .skip
theorem cadastrelaw5_num_body : Tryd.f10.body = some cadastrelaw5_num_code := by kernel_rfl
noncomputable def cadastrelaw5_num_G {ρ : Type} (k : Nat) : Ans UX ρ := gnil
theorem cadastrelaw5_num_gok {ρ : Type} (k : Nat) : GOK Tryd.prog (cadastrelaw5_num_G (ρ := ρ) k) := gok_nil
noncomputable def cadastrelaw5_num_cfg {ρ : Type} (k : Nat) : Cfg UX ρ where
  live i := (assoc [(0, [0]), (1, [0])] i).getD []
  boxes i := (assoc [(0, []), (1, [])] i).getD []
  tk i := (assoc [] i).getD []
  n := 4
  labelR l := (assoc [] l).getD 0
  loops := assoc []
  labels := assoc []
  joins := assoc []
  xl i e := match e with
    | .nxt => assoc [] i
    | .ret => assoc [] i
    | .exit j => (assoc [] i).bind fun l => assoc l j
    | .goto j => (assoc [] i).bind fun l => assoc l j
noncomputable def cadastrelaw5_num_L : List Code := selI [] (loopsOf cadastrelaw5_num_code)
noncomputable def cadastrelaw5_num_J : List Code := selI [] (joinsOf cadastrelaw5_num_code)
noncomputable def cadastrelaw5_num_S : List Code := scopesOf cadastrelaw5_num_code
theorem cadastrelaw5_num_cok {ρ : Type} (k : Nat) : COK (cadastrelaw5_num_cfg (ρ := ρ) k) (cadastrelaw5_num_G k) cadastrelaw5_num_code :=
  cok_of (tl := []) (tj := []) (tb := []) rfl rfl rfl (nil_all (by kernel_rfl)) (nil_all (by kernel_rfl)) (fun p hp => by cases hp)
noncomputable def cadastrelaw5_num_enc (r : Int) : AV UU := .pv (.int .i64 r)
noncomputable def cadastrelaw5_num_dec (v : AV UU) (_ : List (List (AV UU))) : Option Int :=
asI .i64 v fun r0 =>
some r0
theorem cadastrelaw5_num_dec_enc (v : AV UU) (b : List (List (AV UU))) (r : Int) (h : cadastrelaw5_num_dec v b = some r) : v = cadastrelaw5_num_enc r := by
  unfold cadastrelaw5_num_dec at h
  replace h := asI_inv h; obtain ⟨r0, rfl, h⟩ := h
  cases h
  rfl
theorem cadastrelaw5_num_eq (k : Nat) (e0 : Int) : bodyK UX (cadastrelaw5_num_cfg k) (cadastrelaw5_num_G k) Tryd.f10 [.pv (.int .i64 e0)] [] cadastrelaw5_num_dec = cadastrelaw5_num k e0 := by kernel_rfl
theorem cadastrelaw5_num_con (k : Nat) (e0 : Int) (r : Int) (h : cadastrelaw5_num k e0 = some r) : Con (X := UX) Tryd.prog 10 [.pv (.int .i64 e0)] [] (cadastrelaw5_num_enc r) [] :=
  con_of_body xok tok Tryd.func10 cadastrelaw5_num_body (cadastrelaw5_num_gok k) rfl (cadastrelaw5_num_cok k) (of_decide_eq_true (by kernel_rfl)) cadastrelaw5_num_dec_enc ((cadastrelaw5_num_eq k e0).trans h)
noncomputable def cadastrelaw5_num_an {ρ : Type} (k : Nat) : An UX ρ := fun args bx K =>
popA args fun v1 a2 =>
asI .i64 v1 fun e0 =>
popN a2 <|
popN bx <|
(cadastrelaw5_num k e0).bind fun r => K (cadastrelaw5_num_enc r) []
theorem cadastrelaw5_num_ok {ρ : Type} (k : Nat) : AnsOK Tryd.prog 10 (cadastrelaw5_num_an (ρ := ρ) k) := by
  intro args bx K r h
  unfold cadastrelaw5_num_an at h
  replace h := popA_inv h; obtain ⟨v1, a2, rfl, h⟩ := h
  replace h := asI_inv h; obtain ⟨e0, rfl, h⟩ := h
  replace h := popN_inv h; obtain ⟨rfl, h⟩ := h
  replace h := popN_inv h; obtain ⟨rfl, h⟩ := h
  replace h := bind_inv h
  obtain ⟨x, hx, h⟩ := h
  exact ⟨there_of Tryd.func10 (by kernel_rfl) cadastrelaw5_num_body, _, _, h, cadastrelaw5_num_con k e0 x hx⟩

/-! cadastre/cadastreref2.May -/
noncomputable def cadastreref2_May_code : Code := match Tryd.f11.body with | some c => c | none => .skip
theorem cadastreref2_May_body : Tryd.f11.body = some cadastreref2_May_code := by kernel_rfl
noncomputable def cadastreref2_May_G {ρ : Type} (k : Nat) : Ans UX ρ := gnil
theorem cadastreref2_May_gok {ρ : Type} (k : Nat) : GOK Tryd.prog (cadastreref2_May_G (ρ := ρ) k) := gok_nil
noncomputable def cadastreref2_May_j8_s {ρ : Type} (k : Nat) : Run UX ρ := fun s K =>
popS 1 s.env fun v1 e2 =>
asP 1 0 v1 <|
popN e2 <|
popB 1 s.hp fun c3 e4 =>
popA c3 fun v5 c6 =>
asI .i64 v5 fun z7 =>
popA c6 fun v8 c9 =>
asI .i64 v8 fun z10 =>
popA c9 fun v11 c12 =>
asS v11 fun z13 =>
popN c12 <|
popN e4 <|
cadastreref2_May_j8 k (fun t2 => K .ret ⟨[(2, .pv (.bool t2))], []⟩) (⟨z7, z10, z13⟩ : S23)
noncomputable def cadastreref2_May_cfg {ρ : Type} (k : Nat) : Cfg UX ρ where
  live i := (assoc [(0, [0]), (1, [1]), (2, [1, 4]), (3, [1]), (4, [1, 4]), (5, [1]), (6, [1, 4]), (7, [1, 4]), (8, [1]), (9, [])] i).getD []
  boxes i := (assoc [(0, []), (1, [1]), (2, [1]), (3, [1]), (4, [1]), (5, [1]), (6, [1]), (7, [1]), (8, [1]), (9, [])] i).getD []
  tk i := (assoc [] i).getD []
  n := 27
  labelR l := (assoc [] l).getD 0
  loops := assoc []
  labels := assoc []
  joins := assoc [(8, cadastreref2_May_j8_s k)]
  xl i e := match e with
    | .nxt => assoc [] i
    | .ret => assoc [(8, ([2], []))] i
    | .exit j => (assoc [] i).bind fun l => assoc l j
    | .goto j => (assoc [] i).bind fun l => assoc l j
noncomputable def cadastreref2_May_L : List Code := selI [] (loopsOf cadastreref2_May_code)
noncomputable def cadastreref2_May_J : List Code := selI [8] (joinsOf cadastreref2_May_code)
noncomputable def cadastreref2_May_S : List Code := scopesOf cadastreref2_May_code
theorem cadastreref2_May_j8_eq0 {ρ : Type} (k : Nat) (K : Ex → St UU → Option ρ) (v1 : S23) : exec UX (cadastreref2_May_cfg k) (cadastreref2_May_G k) (cadastreref2_May_J.getD 0 .skip) ⟨[(1, .ptr 1 0)], [(1, [.pv (.int .i64 v1.f0), .pv (.int .i64 v1.f1), .pv (.str v1.f2)])]⟩ (nrmK UX (cadastreref2_May_cfg k) 8 K) = cadastreref2_May_j8 k (fun t2 => K .ret ⟨[(2, .pv (.bool t2))], []⟩) v1 := by kernel_rfl
theorem cadastreref2_May_j8_ok0 {ρ : Type} (k : Nat) : JoinOK UX (cadastreref2_May_cfg (ρ := ρ) k) (cadastreref2_May_G k) (cadastreref2_May_J.getD 0 .skip) 8 (cadastreref2_May_j8_s k) := by
  intro s K r h
  obtain ⟨env, hp⟩ := s
  unfold cadastreref2_May_j8_s at h
  replace h := popS_inv h; obtain ⟨v1, e2, rfl, h⟩ := h
  replace h := asP_inv h; obtain ⟨rfl, h⟩ := h
  replace h := popN_inv h; obtain ⟨rfl, h⟩ := h
  replace h := popB_inv h; obtain ⟨c3, e4, rfl, h⟩ := h
  replace h := popA_inv h; obtain ⟨v5, c6, rfl, h⟩ := h
  replace h := asI_inv h; obtain ⟨z7, rfl, h⟩ := h
  replace h := popA_inv h; obtain ⟨v8, c9, rfl, h⟩ := h
  replace h := asI_inv h; obtain ⟨z10, rfl, h⟩ := h
  replace h := popA_inv h; obtain ⟨v11, c12, rfl, h⟩ := h
  replace h := asS_inv h; obtain ⟨z13, rfl, h⟩ := h
  replace h := popN_inv h; obtain ⟨rfl, h⟩ := h
  replace h := popN_inv h; obtain ⟨rfl, h⟩ := h
  exact (cadastreref2_May_j8_eq0 k K (⟨z7, z10, z13⟩ : S23)).trans h
theorem cadastreref2_May_cok {ρ : Type} (k : Nat) : COK (cadastreref2_May_cfg (ρ := ρ) k) (cadastreref2_May_G k) cadastreref2_May_code :=
  cok_of (tl := []) (tj := [(8, cadastreref2_May_j8_s k)]) (tb := []) rfl rfl rfl (nil_all (by kernel_rfl)) (all_nth 1 (by kernel_rfl) ⟨join_case (by kernel_rfl) rfl (cadastreref2_May_j8_ok0 k), trivial⟩) (fun p hp => by cases hp)
noncomputable def cadastreref2_May_enc (r : Bool) : AV UU := .pv (.bool r)
noncomputable def cadastreref2_May_dec (v : AV UU) (_ : List (List (AV UU))) : Option Bool :=
asB v fun r0 =>
some r0
theorem cadastreref2_May_dec_enc (v : AV UU) (b : List (List (AV UU))) (r : Bool) (h : cadastreref2_May_dec v b = some r) : v = cadastreref2_May_enc r := by
  unfold cadastreref2_May_dec at h
  replace h := asB_inv h; obtain ⟨r0, rfl, h⟩ := h
  cases h
  rfl
theorem cadastreref2_May_eq (k : Nat) (v0 : S23) : bodyK UX (cadastreref2_May_cfg k) (cadastreref2_May_G k) Tryd.f11 [.pv (.typ (.s23 v0))] [] cadastreref2_May_dec = cadastreref2_May k v0 := by kernel_rfl
theorem cadastreref2_May_con (k : Nat) (v0 : S23) (r : Bool) (h : cadastreref2_May k v0 = some r) : Con (X := UX) Tryd.prog 11 [.pv (.typ (.s23 v0))] [] (cadastreref2_May_enc r) [] :=
  con_of_body xok tok Tryd.func11 cadastreref2_May_body (cadastreref2_May_gok k) rfl (cadastreref2_May_cok k) (of_decide_eq_true (by kernel_rfl)) cadastreref2_May_dec_enc ((cadastreref2_May_eq k v0).trans h)
noncomputable def cadastreref2_May_an {ρ : Type} (k : Nat) : An UX ρ := fun args bx K =>
popA args fun v1 a2 =>
as_s23 v1 fun v0 =>
popN a2 <|
popN bx <|
(cadastreref2_May k v0).bind fun r => K (cadastreref2_May_enc r) []
theorem cadastreref2_May_ok {ρ : Type} (k : Nat) : AnsOK Tryd.prog 11 (cadastreref2_May_an (ρ := ρ) k) := by
  intro args bx K r h
  unfold cadastreref2_May_an at h
  replace h := popA_inv h; obtain ⟨v1, a2, rfl, h⟩ := h
  replace h := as_s23_inv h; obtain ⟨v0, rfl, h⟩ := h
  replace h := popN_inv h; obtain ⟨rfl, h⟩ := h
  replace h := popN_inv h; obtain ⟨rfl, h⟩ := h
  replace h := bind_inv h
  obtain ⟨x, hx, h⟩ := h
  exact ⟨there_of Tryd.func11 (by kernel_rfl) cadastreref2_May_body, _, _, h, cadastreref2_May_con k v0 x hx⟩

/-! cadastre/cadastreref2.Type -/
noncomputable def cadastreref2_Type_code : Code := match Tryd.f12.body with | some c => c | none => .skip
theorem cadastreref2_Type_body : Tryd.f12.body = some cadastreref2_Type_code := by kernel_rfl
noncomputable def cadastreref2_Type_G {ρ : Type} (k : Nat) : Ans UX ρ := gnil
theorem cadastreref2_Type_gok {ρ : Type} (k : Nat) : GOK Tryd.prog (cadastreref2_Type_G (ρ := ρ) k) := gok_nil
noncomputable def cadastreref2_Type_cfg {ρ : Type} (k : Nat) : Cfg UX ρ where
  live i := (assoc [(0, [0]), (1, [0])] i).getD []
  boxes i := (assoc [(0, []), (1, [])] i).getD []
  tk i := (assoc [] i).getD []
  n := 9
  labelR l := (assoc [] l).getD 0
  loops := assoc []
  labels := assoc []
  joins := assoc []
  xl i e := match e with
    | .nxt => assoc [] i
    | .ret => assoc [] i
    | .exit j => (assoc [] i).bind fun l => assoc l j
    | .goto j => (assoc [] i).bind fun l => assoc l j
noncomputable def cadastreref2_Type_L : List Code := selI [] (loopsOf cadastreref2_Type_code)
noncomputable def cadastreref2_Type_J : List Code := selI [] (joinsOf cadastreref2_Type_code)
noncomputable def cadastreref2_Type_S : List Code := scopesOf cadastreref2_Type_code
theorem cadastreref2_Type_cok {ρ : Type} (k : Nat) : COK (cadastreref2_Type_cfg (ρ := ρ) k) (cadastreref2_Type_G k) cadastreref2_Type_code :=
  cok_of (tl := []) (tj := []) (tb := []) rfl rfl rfl (nil_all (by kernel_rfl)) (nil_all (by kernel_rfl)) (fun p hp => by cases hp)
noncomputable def cadastreref2_Type_enc (r : Bool) : AV UU := .pv (.bool r)
noncomputable def cadastreref2_Type_dec (v : AV UU) (_ : List (List (AV UU))) : Option Bool :=
asB v fun r0 =>
some r0
theorem cadastreref2_Type_dec_enc (v : AV UU) (b : List (List (AV UU))) (r : Bool) (h : cadastreref2_Type_dec v b = some r) : v = cadastreref2_Type_enc r := by
  unfold cadastreref2_Type_dec at h
  replace h := asB_inv h; obtain ⟨r0, rfl, h⟩ := h
  cases h
  rfl
theorem cadastreref2_Type_eq (k : Nat) (t0 : Int) : bodyK UX (cadastreref2_Type_cfg k) (cadastreref2_Type_G k) Tryd.f12 [.pv (.int .i64 t0)] [] cadastreref2_Type_dec = cadastreref2_Type k t0 := by kernel_rfl
theorem cadastreref2_Type_con (k : Nat) (t0 : Int) (r : Bool) (h : cadastreref2_Type k t0 = some r) : Con (X := UX) Tryd.prog 12 [.pv (.int .i64 t0)] [] (cadastreref2_Type_enc r) [] :=
  con_of_body xok tok Tryd.func12 cadastreref2_Type_body (cadastreref2_Type_gok k) rfl (cadastreref2_Type_cok k) (of_decide_eq_true (by kernel_rfl)) cadastreref2_Type_dec_enc ((cadastreref2_Type_eq k t0).trans h)
noncomputable def cadastreref2_Type_an {ρ : Type} (k : Nat) : An UX ρ := fun args bx K =>
popA args fun v1 a2 =>
asI .i64 v1 fun t0 =>
popN a2 <|
popN bx <|
(cadastreref2_Type k t0).bind fun r => K (cadastreref2_Type_enc r) []
theorem cadastreref2_Type_ok {ρ : Type} (k : Nat) : AnsOK Tryd.prog 12 (cadastreref2_Type_an (ρ := ρ) k) := by
  intro args bx K r h
  unfold cadastreref2_Type_an at h
  replace h := popA_inv h; obtain ⟨v1, a2, rfl, h⟩ := h
  replace h := asI_inv h; obtain ⟨t0, rfl, h⟩ := h
  replace h := popN_inv h; obtain ⟨rfl, h⟩ := h
  replace h := popN_inv h; obtain ⟨rfl, h⟩ := h
  replace h := bind_inv h
  obtain ⟨x, hx, h⟩ := h
  exact ⟨there_of Tryd.func12 (by kernel_rfl) cadastreref2_Type_body, _, _, h, cadastreref2_Type_con k t0 x hx⟩

/-! cadastre/cadastreref2.Fits -/
noncomputable def cadastreref2_Fits_code : Code := match Tryd.f30.body with | some c => c | none => .skip
theorem cadastreref2_Fits_body : Tryd.f30.body = some cadastreref2_Fits_code := by kernel_rfl
noncomputable def cadastreref2_Fits_G {ρ : Type} (k : Nat) : Ans UX ρ := gnil
theorem cadastreref2_Fits_gok {ρ : Type} (k : Nat) : GOK Tryd.prog (cadastreref2_Fits_G (ρ := ρ) k) := gok_nil
noncomputable def cadastreref2_Fits_cfg {ρ : Type} (k : Nat) : Cfg UX ρ where
  live i := (assoc [(0, [0, 1]), (1, [1, 2])] i).getD []
  boxes i := (assoc [(0, []), (1, [2])] i).getD []
  tk i := (assoc [] i).getD []
  n := 39
  labelR l := (assoc [] l).getD 0
  loops := assoc []
  labels := assoc []
  joins := assoc []
  xl i e := match e with
    | .nxt => assoc [] i
    | .ret => assoc [] i
    | .exit j => (assoc [] i).bind fun l => assoc l j
    | .goto j => (assoc [] i).bind fun l => assoc l j
noncomputable def cadastreref2_Fits_L : List Code := selI [] (loopsOf cadastreref2_Fits_code)
noncomputable def cadastreref2_Fits_J : List Code := selI [] (joinsOf cadastreref2_Fits_code)
noncomputable def cadastreref2_Fits_S : List Code := scopesOf cadastreref2_Fits_code
theorem cadastreref2_Fits_cok {ρ : Type} (k : Nat) : COK (cadastreref2_Fits_cfg (ρ := ρ) k) (cadastreref2_Fits_G k) cadastreref2_Fits_code :=
  cok_of (tl := []) (tj := []) (tb := []) rfl rfl rfl (nil_all (by kernel_rfl)) (nil_all (by kernel_rfl)) (fun p hp => by cases hp)
noncomputable def cadastreref2_Fits_enc (r : Bool) : AV UU := .pv (.bool r)
noncomputable def cadastreref2_Fits_dec (v : AV UU) (_ : List (List (AV UU))) : Option Bool :=
asB v fun r0 =>
some r0
theorem cadastreref2_Fits_dec_enc (v : AV UU) (b : List (List (AV UU))) (r : Bool) (h : cadastreref2_Fits_dec v b = some r) : v = cadastreref2_Fits_enc r := by
  unfold cadastreref2_Fits_dec at h
  replace h := asB_inv h; obtain ⟨r0, rfl, h⟩ := h
  cases h
  rfl
theorem cadastreref2_Fits_eq (k : Nat) (v0 : S23) (t1 : Int) : bodyK UX (cadastreref2_Fits_cfg k) (cadastreref2_Fits_G k) Tryd.f30 [.pv (.typ (.s23 v0)), .pv (.int .i64 t1)] [] cadastreref2_Fits_dec = cadastreref2_Fits k v0 t1 := by kernel_rfl
theorem cadastreref2_Fits_con (k : Nat) (v0 : S23) (t1 : Int) (r : Bool) (h : cadastreref2_Fits k v0 t1 = some r) : Con (X := UX) Tryd.prog 30 [.pv (.typ (.s23 v0)), .pv (.int .i64 t1)] [] (cadastreref2_Fits_enc r) [] :=
  con_of_body xok tok Tryd.func30 cadastreref2_Fits_body (cadastreref2_Fits_gok k) rfl (cadastreref2_Fits_cok k) (of_decide_eq_true (by kernel_rfl)) cadastreref2_Fits_dec_enc ((cadastreref2_Fits_eq k v0 t1).trans h)
noncomputable def cadastreref2_Fits_an {ρ : Type} (k : Nat) : An UX ρ := fun args bx K =>
popA args fun v1 a2 =>
as_s23 v1 fun v0 =>
popA a2 fun v3 a4 =>
asI .i64 v3 fun t1 =>
popN a4 <|
popN bx <|
(cadastreref2_Fits k v0 t1).bind fun r => K (cadastreref2_Fits_enc r) []
theorem cadastreref2_Fits_ok {ρ : Type} (k : Nat) : AnsOK Tryd.prog 30 (cadastreref2_Fits_an (ρ := ρ) k) := by
  intro args bx K r h
  unfold cadastreref2_Fits_an at h
  replace h := popA_inv h; obtain ⟨v1, a2, rfl, h⟩ := h
  replace h := as_s23_inv h; obtain ⟨v0, rfl, h⟩ := h
  replace h := popA_inv h; obtain ⟨v3, a4, rfl, h⟩ := h
  replace h := asI_inv h; obtain ⟨t1, rfl, h⟩ := h
  replace h := popN_inv h; obtain ⟨rfl, h⟩ := h
  replace h := popN_inv h; obtain ⟨rfl, h⟩ := h
  replace h := bind_inv h
  obtain ⟨x, hx, h⟩ := h
  exact ⟨there_of Tryd.func30 (by kernel_rfl) cadastreref2_Fits_body, _, _, h, cadastreref2_Fits_con k v0 t1 x hx⟩

noncomputable def cadastreref4_Digits_code : Code := match Tryd.f41.body with | some c => c | none => .skip
theorem cadastreref4_Digits_body : Tryd.f41.body = some cadastreref4_Digits_code := by kernel_rfl
noncomputable def cadastreref4_Digits_enc (r : ByteArray) : AV UU := .pv (.str r)
structure cadastreref4_Digits_R_ok (rc : cadastreref4_Digits_R) : Prop where
  cadastreref4_Digits : ∀ (n0 : Int) (r : ByteArray), rc.cadastreref4_Digits n0 = some r → Con (X := UX) Tryd.prog 41 [.pv (.int .i64 n0)] [] (cadastreref4_Digits_enc r) []
noncomputable def cadastreref4_Digits_ran {ρ : Type} (rc : cadastreref4_Digits_R) : An UX ρ := fun args bx K =>
popA args fun v1 a2 =>
asI .i64 v1 fun n0 =>
popN a2 <|
popN bx <|
(rc.cadastreref4_Digits n0).bind fun r => K (cadastreref4_Digits_enc r) []
theorem cadastreref4_Digits_rok {ρ : Type} (rc : cadastreref4_Digits_R) (hrc : cadastreref4_Digits_R_ok rc) : AnsOK Tryd.prog 41 (cadastreref4_Digits_ran (ρ := ρ) rc) := by
  intro args bx K r h
  unfold cadastreref4_Digits_ran at h
  replace h := popA_inv h; obtain ⟨v1, a2, rfl, h⟩ := h
  replace h := asI_inv h; obtain ⟨n0, rfl, h⟩ := h
  replace h := popN_inv h; obtain ⟨rfl, h⟩ := h
  replace h := popN_inv h; obtain ⟨rfl, h⟩ := h
  replace h := bind_inv h
  obtain ⟨x, hx, h⟩ := h
  exact ⟨there_of Tryd.func41 (by kernel_rfl) cadastreref4_Digits_body, _, _, h, hrc.cadastreref4_Digits n0 x hx⟩
/-! cadastre/cadastreref4.Digits -/
noncomputable def cadastreref4_Digits_G {ρ : Type} (k : Nat) (rc : cadastreref4_Digits_R) : Ans UX ρ := gk 41 (cadastreref4_Digits_ran rc) (gnil)
theorem cadastreref4_Digits_gok {ρ : Type} (k : Nat) (rc : cadastreref4_Digits_R) (hrc : cadastreref4_Digits_R_ok rc) : GOK Tryd.prog (cadastreref4_Digits_G (ρ := ρ) k rc) := gok_cons (cadastreref4_Digits_rok rc hrc) (gok_nil)
noncomputable def cadastreref4_Digits_cfg {ρ : Type} (k : Nat) (rc : cadastreref4_Digits_R) : Cfg UX ρ where
  live i := (assoc [(0, [0]), (1, [0]), (2, []), (3, [0]), (4, [0]), (5, [0]), (6, [0]), (7, [0])] i).getD []
  boxes i := (assoc [(0, []), (1, []), (2, []), (3, []), (4, []), (5, []), (6, []), (7, [])] i).getD []
  tk i := (assoc [] i).getD []
  n := 25
  labelR l := (assoc [] l).getD 0
  loops := assoc []
  labels := assoc []
  joins := assoc []
  xl i e := match e with
    | .nxt => assoc [] i
    | .ret => assoc [] i
    | .exit j => (assoc [] i).bind fun l => assoc l j
    | .goto j => (assoc [] i).bind fun l => assoc l j
noncomputable def cadastreref4_Digits_L : List Code := selI [] (loopsOf cadastreref4_Digits_code)
noncomputable def cadastreref4_Digits_J : List Code := selI [] (joinsOf cadastreref4_Digits_code)
noncomputable def cadastreref4_Digits_S : List Code := scopesOf cadastreref4_Digits_code
theorem cadastreref4_Digits_cok {ρ : Type} (k : Nat) (rc : cadastreref4_Digits_R) : COK (cadastreref4_Digits_cfg (ρ := ρ) k rc) (cadastreref4_Digits_G k rc) cadastreref4_Digits_code :=
  cok_of (tl := []) (tj := []) (tb := []) rfl rfl rfl (nil_all (by kernel_rfl)) (nil_all (by kernel_rfl)) (fun p hp => by cases hp)
noncomputable def cadastreref4_Digits_dec (v : AV UU) (_ : List (List (AV UU))) : Option ByteArray :=
asS v fun r0 =>
some r0
theorem cadastreref4_Digits_dec_enc (v : AV UU) (b : List (List (AV UU))) (r : ByteArray) (h : cadastreref4_Digits_dec v b = some r) : v = cadastreref4_Digits_enc r := by
  unfold cadastreref4_Digits_dec at h
  replace h := asS_inv h; obtain ⟨r0, rfl, h⟩ := h
  cases h
  rfl
theorem cadastreref4_Digits_eq (k : Nat) (rc : cadastreref4_Digits_R) (n0 : Int) : bodyK UX (cadastreref4_Digits_cfg k rc) (cadastreref4_Digits_G k rc) Tryd.f41 [.pv (.int .i64 n0)] [] cadastreref4_Digits_dec = cadastreref4_Digits_r k rc n0 := by kernel_rfl
theorem cadastreref4_Digits_con_r (k : Nat) (rc : cadastreref4_Digits_R) (hrc : cadastreref4_Digits_R_ok rc) (n0 : Int) (r : ByteArray) (h : cadastreref4_Digits_r k rc n0 = some r) : Con (X := UX) Tryd.prog 41 [.pv (.int .i64 n0)] [] (cadastreref4_Digits_enc r) [] :=
  con_of_body xok tok Tryd.func41 cadastreref4_Digits_body (cadastreref4_Digits_gok k rc hrc) rfl (cadastreref4_Digits_cok k rc) (of_decide_eq_true (by kernel_rfl)) cadastreref4_Digits_dec_enc ((cadastreref4_Digits_eq k rc n0).trans h)
theorem cadastreref4_Digits_R_itok (k : Nat) : ∀ d, cadastreref4_Digits_R_ok (cadastreref4_Digits_R_it k d)
  | 0 => ⟨fun n0 r h => by have e : (none : Option ByteArray) = some r := h; cases e⟩
  | d + 1 => ⟨fun n0 r h => cadastreref4_Digits_con_r k (cadastreref4_Digits_R_it k d) (cadastreref4_Digits_R_itok k d) n0 r h⟩
theorem cadastreref4_Digits_con (k : Nat) (n0 : Int) (r : ByteArray) (h : cadastreref4_Digits k n0 = some r) : Con (X := UX) Tryd.prog 41 [.pv (.int .i64 n0)] [] (cadastreref4_Digits_enc r) [] := (cadastreref4_Digits_R_itok k k).cadastreref4_Digits n0 r h
noncomputable def cadastreref4_Digits_an {ρ : Type} (k : Nat) : An UX ρ := fun args bx K =>
popA args fun v1 a2 =>
asI .i64 v1 fun n0 =>
popN a2 <|
popN bx <|
(cadastreref4_Digits k n0).bind fun r => K (cadastreref4_Digits_enc r) []
theorem cadastreref4_Digits_ok {ρ : Type} (k : Nat) : AnsOK Tryd.prog 41 (cadastreref4_Digits_an (ρ := ρ) k) := by
  intro args bx K r h
  unfold cadastreref4_Digits_an at h
  replace h := popA_inv h; obtain ⟨v1, a2, rfl, h⟩ := h
  replace h := asI_inv h; obtain ⟨n0, rfl, h⟩ := h
  replace h := popN_inv h; obtain ⟨rfl, h⟩ := h
  replace h := popN_inv h; obtain ⟨rfl, h⟩ := h
  replace h := bind_inv h
  obtain ⟨x, hx, h⟩ := h
  exact ⟨there_of Tryd.func41 (by kernel_rfl) cadastreref4_Digits_body, _, _, h, cadastreref4_Digits_con k n0 x hx⟩

/-! cadastre/cadastreref4.text -/
noncomputable def cadastreref4_text_code : Code := match Tryd.f40.body with | some c => c | none => .skip
theorem cadastreref4_text_body : Tryd.f40.body = some cadastreref4_text_code := by kernel_rfl
noncomputable def cadastreref4_text_G {ρ : Type} (k : Nat) : Ans UX ρ := gnil
theorem cadastreref4_text_gok {ρ : Type} (k : Nat) : GOK Tryd.prog (cadastreref4_text_G (ρ := ρ) k) := gok_nil
noncomputable def cadastreref4_text_cfg {ρ : Type} (k : Nat) : Cfg UX ρ where
  live i := (assoc [(0, [0]), (1, [0, 2])] i).getD []
  boxes i := (assoc [(0, []), (1, [2])] i).getD []
  tk i := (assoc [] i).getD []
  n := 5
  labelR l := (assoc [] l).getD 0
  loops := assoc []
  labels := assoc []
  joins := assoc []
  xl i e := match e with
    | .nxt => assoc [] i
    | .ret => assoc [] i
    | .exit j => (assoc [] i).bind fun l => assoc l j
    | .goto j => (assoc [] i).bind fun l => assoc l j
noncomputable def cadastreref4_text_L : List Code := selI [] (loopsOf cadastreref4_text_code)
noncomputable def cadastreref4_text_J : List Code := selI [] (joinsOf cadastreref4_text_code)
noncomputable def cadastreref4_text_S : List Code := scopesOf cadastreref4_text_code
theorem cadastreref4_text_cok {ρ : Type} (k : Nat) : COK (cadastreref4_text_cfg (ρ := ρ) k) (cadastreref4_text_G k) cadastreref4_text_code :=
  cok_of (tl := []) (tj := []) (tb := []) rfl rfl rfl (nil_all (by kernel_rfl)) (nil_all (by kernel_rfl)) (fun p hp => by cases hp)
noncomputable def cadastreref4_text_enc (r : S23) : AV UU := .pv (.typ (.s23 r))
noncomputable def cadastreref4_text_dec (v : AV UU) (_ : List (List (AV UU))) : Option S23 :=
as_s23 v fun r0 =>
some r0
theorem cadastreref4_text_dec_enc (v : AV UU) (b : List (List (AV UU))) (r : S23) (h : cadastreref4_text_dec v b = some r) : v = cadastreref4_text_enc r := by
  unfold cadastreref4_text_dec at h
  replace h := as_s23_inv h; obtain ⟨r0, rfl, h⟩ := h
  cases h
  rfl
theorem cadastreref4_text_eq (k : Nat) (s0 : ByteArray) : bodyK UX (cadastreref4_text_cfg k) (cadastreref4_text_G k) Tryd.f40 [.pv (.str s0)] [] cadastreref4_text_dec = cadastreref4_text k s0 := by kernel_rfl
theorem cadastreref4_text_con (k : Nat) (s0 : ByteArray) (r : S23) (h : cadastreref4_text k s0 = some r) : Con (X := UX) Tryd.prog 40 [.pv (.str s0)] [] (cadastreref4_text_enc r) [] :=
  con_of_body xok tok Tryd.func40 cadastreref4_text_body (cadastreref4_text_gok k) rfl (cadastreref4_text_cok k) (of_decide_eq_true (by kernel_rfl)) cadastreref4_text_dec_enc ((cadastreref4_text_eq k s0).trans h)
noncomputable def cadastreref4_text_an {ρ : Type} (k : Nat) : An UX ρ := fun args bx K =>
popA args fun v1 a2 =>
asS v1 fun s0 =>
popN a2 <|
popN bx <|
(cadastreref4_text k s0).bind fun r => K (cadastreref4_text_enc r) []
theorem cadastreref4_text_ok {ρ : Type} (k : Nat) : AnsOK Tryd.prog 40 (cadastreref4_text_an (ρ := ρ) k) := by
  intro args bx K r h
  unfold cadastreref4_text_an at h
  replace h := popA_inv h; obtain ⟨v1, a2, rfl, h⟩ := h
  replace h := asS_inv h; obtain ⟨s0, rfl, h⟩ := h
  replace h := popN_inv h; obtain ⟨rfl, h⟩ := h
  replace h := popN_inv h; obtain ⟨rfl, h⟩ := h
  replace h := bind_inv h
  obtain ⟨x, hx, h⟩ := h
  exact ⟨there_of Tryd.func40 (by kernel_rfl) cadastreref4_text_body, _, _, h, cadastreref4_text_con k s0 x hx⟩

/-! cadastre/cadastreref4.Text -/
noncomputable def cadastreref4_Text_code : Code := match Tryd.f22.body with | some c => c | none => .skip
theorem cadastreref4_Text_body : Tryd.f22.body = some cadastreref4_Text_code := by kernel_rfl
noncomputable def cadastreref4_Text_G {ρ : Type} (k : Nat) : Ans UX ρ := gk 41 (cadastreref4_Digits_an k) (gk 40 (cadastreref4_text_an k) (gnil))
theorem cadastreref4_Text_gok {ρ : Type} (k : Nat) : GOK Tryd.prog (cadastreref4_Text_G (ρ := ρ) k) := gok_cons (cadastreref4_Digits_ok k) (gok_cons (cadastreref4_text_ok k) (gok_nil))
noncomputable def cadastreref4_Text_cfg {ρ : Type} (k : Nat) : Cfg UX ρ where
  live i := (assoc [(0, [0]), (1, [1, 2]), (2, [1, 2]), (3, [1, 2])] i).getD []
  boxes i := (assoc [(0, []), (1, [1, 2]), (2, [1, 2]), (3, [1, 2])] i).getD []
  tk i := (assoc [] i).getD []
  n := 11
  labelR l := (assoc [] l).getD 0
  loops := assoc []
  labels := assoc []
  joins := assoc []
  xl i e := match e with
    | .nxt => assoc [] i
    | .ret => assoc [] i
    | .exit j => (assoc [] i).bind fun l => assoc l j
    | .goto j => (assoc [] i).bind fun l => assoc l j
noncomputable def cadastreref4_Text_L : List Code := selI [] (loopsOf cadastreref4_Text_code)
noncomputable def cadastreref4_Text_J : List Code := selI [] (joinsOf cadastreref4_Text_code)
noncomputable def cadastreref4_Text_S : List Code := scopesOf cadastreref4_Text_code
theorem cadastreref4_Text_cok {ρ : Type} (k : Nat) : COK (cadastreref4_Text_cfg (ρ := ρ) k) (cadastreref4_Text_G k) cadastreref4_Text_code :=
  cok_of (tl := []) (tj := []) (tb := []) rfl rfl rfl (nil_all (by kernel_rfl)) (nil_all (by kernel_rfl)) (fun p hp => by cases hp)
noncomputable def cadastreref4_Text_enc (r : S23) : AV UU := .pv (.typ (.s23 r))
noncomputable def cadastreref4_Text_dec (v : AV UU) (_ : List (List (AV UU))) : Option S23 :=
as_s23 v fun r0 =>
some r0
theorem cadastreref4_Text_dec_enc (v : AV UU) (b : List (List (AV UU))) (r : S23) (h : cadastreref4_Text_dec v b = some r) : v = cadastreref4_Text_enc r := by
  unfold cadastreref4_Text_dec at h
  replace h := as_s23_inv h; obtain ⟨r0, rfl, h⟩ := h
  cases h
  rfl
theorem cadastreref4_Text_eq (k : Nat) (v0 : S23) : bodyK UX (cadastreref4_Text_cfg k) (cadastreref4_Text_G k) Tryd.f22 [.pv (.typ (.s23 v0))] [] cadastreref4_Text_dec = cadastreref4_Text k v0 := by kernel_rfl
theorem cadastreref4_Text_con (k : Nat) (v0 : S23) (r : S23) (h : cadastreref4_Text k v0 = some r) : Con (X := UX) Tryd.prog 22 [.pv (.typ (.s23 v0))] [] (cadastreref4_Text_enc r) [] :=
  con_of_body xok tok Tryd.func22 cadastreref4_Text_body (cadastreref4_Text_gok k) rfl (cadastreref4_Text_cok k) (of_decide_eq_true (by kernel_rfl)) cadastreref4_Text_dec_enc ((cadastreref4_Text_eq k v0).trans h)
noncomputable def cadastreref4_Text_an {ρ : Type} (k : Nat) : An UX ρ := fun args bx K =>
popA args fun v1 a2 =>
as_s23 v1 fun v0 =>
popN a2 <|
popN bx <|
(cadastreref4_Text k v0).bind fun r => K (cadastreref4_Text_enc r) []
theorem cadastreref4_Text_ok {ρ : Type} (k : Nat) : AnsOK Tryd.prog 22 (cadastreref4_Text_an (ρ := ρ) k) := by
  intro args bx K r h
  unfold cadastreref4_Text_an at h
  replace h := popA_inv h; obtain ⟨v1, a2, rfl, h⟩ := h
  replace h := as_s23_inv h; obtain ⟨v0, rfl, h⟩ := h
  replace h := popN_inv h; obtain ⟨rfl, h⟩ := h
  replace h := popN_inv h; obtain ⟨rfl, h⟩ := h
  replace h := bind_inv h
  obtain ⟨x, hx, h⟩ := h
  exact ⟨there_of Tryd.func22 (by kernel_rfl) cadastreref4_Text_body, _, _, h, cadastreref4_Text_con k v0 x hx⟩

/-! cadastre/cadastreref4.Store -/
noncomputable def cadastreref4_Store_code : Code := match Tryd.f13.body with | some c => c | none => .skip
theorem cadastreref4_Store_body : Tryd.f13.body = some cadastreref4_Store_code := by kernel_rfl
noncomputable def cadastreref4_Store_G {ρ : Type} (k : Nat) : Ans UX ρ := gk 30 (cadastreref2_Fits_an k) (gk 9 (cadastreref4_Int_an k) (gk 29 (cadastreref2_Int_an k) (gk 22 (cadastreref4_Text_an k) (gnil))))
theorem cadastreref4_Store_gok {ρ : Type} (k : Nat) : GOK Tryd.prog (cadastreref4_Store_G (ρ := ρ) k) := gok_cons (cadastreref2_Fits_ok k) (gok_cons (cadastreref4_Int_ok k) (gok_cons (cadastreref2_Int_ok k) (gok_cons (cadastreref4_Text_ok k) (gok_nil))))
noncomputable def cadastreref4_Store_j4_s {ρ : Type} (k : Nat) : Run UX ρ := fun s K =>
popS 2 s.env fun v1 e2 =>
asP 2 0 v1 <|
popS 4 e2 fun v3 e4 =>
asP 4 0 v3 <|
popN e4 <|
popB 2 s.hp fun c5 e6 =>
popA c5 fun v7 c8 =>
asI .i64 v7 fun z9 =>
popA c8 fun v10 c11 =>
asI .i64 v10 fun z12 =>
popA c11 fun v13 c14 =>
asS v13 fun z15 =>
popN c14 <|
popB 4 e6 fun c16 e17 =>
popA c16 fun v18 c19 =>
asI .i64 v18 fun z20 =>
popA c19 fun v21 c22 =>
asI .i64 v21 fun z23 =>
popA c22 fun v24 c25 =>
asS v24 fun z26 =>
popN c25 <|
popN e17 <|
cadastreref4_Store_j4 k (fun t5 t4 => K .ret ⟨[(4, .ptr 4 0), (5, .pv (.int .i64 t5))], [(4, [.pv (.int .i64 t4.f0), .pv (.int .i64 t4.f1), .pv (.str t4.f2)])]⟩) (⟨z9, z12, z15⟩ : S23) (⟨z20, z23, z26⟩ : S23)
noncomputable def cadastreref4_Store_j10_s {ρ : Type} (k : Nat) : Run UX ρ := fun s K =>
popS 1 s.env fun v1 e2 =>
asI .i64 v1 fun t1 =>
popS 2 e2 fun v3 e4 =>
asP 2 0 v3 <|
popS 4 e4 fun v5 e6 =>
asP 4 0 v5 <|
popN e6 <|
popB 2 s.hp fun c7 e8 =>
popA c7 fun v9 c10 =>
asI .i64 v9 fun z11 =>
popA c10 fun v12 c13 =>
asI .i64 v12 fun z14 =>
popA c13 fun v15 c16 =>
asS v15 fun z17 =>
popN c16 <|
popB 4 e8 fun c18 e19 =>
popA c18 fun v20 c21 =>
asI .i64 v20 fun z22 =>
popA c21 fun v23 c24 =>
asI .i64 v23 fun z25 =>
popA c24 fun v26 c27 =>
asS v26 fun z28 =>
popN c27 <|
popN e19 <|
cadastreref4_Store_j10 k (fun t5 t4 => K .ret ⟨[(4, .ptr 4 0), (5, .pv (.int .i64 t5))], [(4, [.pv (.int .i64 t4.f0), .pv (.int .i64 t4.f1), .pv (.str t4.f2)])]⟩) (fun t4 => K .nxt ⟨[(4, .ptr 4 0)], [(4, [.pv (.int .i64 t4.f0), .pv (.int .i64 t4.f1), .pv (.str t4.f2)])]⟩) t1 (⟨z11, z14, z17⟩ : S23) (⟨z22, z25, z28⟩ : S23)
noncomputable def cadastreref4_Store_j8_s {ρ : Type} (k : Nat) : Run UX ρ := fun s K =>
popS 1 s.env fun v1 e2 =>
asI .i64 v1 fun t1 =>
popS 2 e2 fun v3 e4 =>
asP 2 0 v3 <|
popS 4 e4 fun v5 e6 =>
asP 4 0 v5 <|
popN e6 <|
popB 2 s.hp fun c7 e8 =>
popA c7 fun v9 c10 =>
asI .i64 v9 fun z11 =>
popA c10 fun v12 c13 =>
asI .i64 v12 fun z14 =>
popA c13 fun v15 c16 =>
asS v15 fun z17 =>
popN c16 <|
popB 4 e8 fun c18 e19 =>
popA c18 fun v20 c21 =>
asI .i64 v20 fun z22 =>
popA c21 fun v23 c24 =>
asI .i64 v23 fun z25 =>
popA c24 fun v26 c27 =>
asS v26 fun z28 =>
popN c27 <|
popN e19 <|
cadastreref4_Store_j8 k (fun t5 t4 => K .ret ⟨[(4, .ptr 4 0), (5, .pv (.int .i64 t5))], [(4, [.pv (.int .i64 t4.f0), .pv (.int .i64 t4.f1), .pv (.str t4.f2)])]⟩) (fun t4 => K .nxt ⟨[(4, .ptr 4 0)], [(4, [.pv (.int .i64 t4.f0), .pv (.int .i64 t4.f1), .pv (.str t4.f2)])]⟩) t1 (⟨z11, z14, z17⟩ : S23) (⟨z22, z25, z28⟩ : S23)
noncomputable def cadastreref4_Store_cfg {ρ : Type} (k : Nat) : Cfg UX ρ where
  live i := (assoc [(0, [0, 1]), (1, [1, 2, 4]), (2, [2, 4]), (3, [1, 2, 4]), (4, [2, 4]), (5, [4, 6, 7]), (6, [4, 7]), (7, [4, 6]), (8, [1, 2, 4]), (9, [2, 4]), (10, [1, 2, 4]), (11, [2, 4]), (12, [4])] i).getD []
  boxes i := (assoc [(0, []), (1, [2, 4]), (2, [2, 4]), (3, [2, 4]), (4, [2, 4]), (5, [4]), (6, [4]), (7, [4]), (8, [2, 4]), (9, [2, 4]), (10, [2, 4]), (11, [2, 4]), (12, [4])] i).getD []
  tk i := (assoc [] i).getD []
  n := 54
  labelR l := (assoc [] l).getD 0
  loops := assoc []
  labels := assoc []
  joins := assoc [(4, cadastreref4_Store_j4_s k), (10, cadastreref4_Store_j10_s k), (8, cadastreref4_Store_j8_s k)]
  xl i e := match e with
    | .nxt => assoc [(10, ([4], [4])), (8, ([4], [4]))] i
    | .ret => assoc [(4, ([4, 5], [4])), (10, ([4, 5], [4])), (8, ([4, 5], [4]))] i
    | .exit j => (assoc [] i).bind fun l => assoc l j
    | .goto j => (assoc [] i).bind fun l => assoc l j
noncomputable def cadastreref4_Store_L : List Code := selI [] (loopsOf cadastreref4_Store_code)
noncomputable def cadastreref4_Store_J : List Code := selI [4, 10, 8] (joinsOf cadastreref4_Store_code)
noncomputable def cadastreref4_Store_S : List Code := scopesOf cadastreref4_Store_code
theorem cadastreref4_Store_j4_eq0 {ρ : Type} (k : Nat) (K : Ex → St UU → Option ρ) (v2 : S23) (t4 : S23) : exec UX (cadastreref4_Store_cfg k) (cadastreref4_Store_G k) (cadastreref4_Store_J.getD 0 .skip) ⟨[(2, .ptr 2 0), (4, .ptr 4 0)], [(2, [.pv (.int .i64 v2.f0), .pv (.int .i64 v2.f1), .pv (.str v2.f2)]), (4, [.pv (.int .i64 t4.f0), .pv (.int .i64 t4.f1), .pv (.str t4.f2)])]⟩ (nrmK UX (cadastreref4_Store_cfg k) 4 K) = cadastreref4_Store_j4 k (fun t5 t4 => K .ret ⟨[(4, .ptr 4 0), (5, .pv (.int .i64 t5))], [(4, [.pv (.int .i64 t4.f0), .pv (.int .i64 t4.f1), .pv (.str t4.f2)])]⟩) v2 t4 := by kernel_rfl
theorem cadastreref4_Store_j4_ok0 {ρ : Type} (k : Nat) : JoinOK UX (cadastreref4_Store_cfg (ρ := ρ) k) (cadastreref4_Store_G k) (cadastreref4_Store_J.getD 0 .skip) 4 (cadastreref4_Store_j4_s k) := by
  intro s K r h
  obtain ⟨env, hp⟩ := s
  unfold cadastreref4_Store_j4_s at h
  replace h := popS_inv h; obtain ⟨v1, e2, rfl, h⟩ := h
  replace h := asP_inv h; obtain ⟨rfl, h⟩ := h
  replace h := popS_inv h; obtain ⟨v3, e4, rfl, h⟩ := h
  replace h := asP_inv h; obtain ⟨rfl, h⟩ := h
  replace h := popN_inv h; obtain ⟨rfl, h⟩ := h
  replace h := popB_inv h; obtain ⟨c5, e6, rfl, h⟩ := h
  replace h := popA_inv h; obtain ⟨v7, c8, rfl, h⟩ := h
  replace h := asI_inv h; obtain ⟨z9, rfl, h⟩ := h
  replace h := popA_inv h; obtain ⟨v10, c11, rfl, h⟩ := h
  replace h := asI_inv h; obtain ⟨z12, rfl, h⟩ := h
  replace h := popA_inv h; obtain ⟨v13, c14, rfl, h⟩ := h
  replace h := asS_inv h; obtain ⟨z15, rfl, h⟩ := h
  replace h := popN_inv h; obtain ⟨rfl, h⟩ := h
  replace h := popB_inv h; obtain ⟨c16, e17, rfl, h⟩ := h
  replace h := popA_inv h; obtain ⟨v18, c19, rfl, h⟩ := h
  replace h := asI_inv h; obtain ⟨z20, rfl, h⟩ := h
  replace h := popA_inv h; obtain ⟨v21, c22, rfl, h⟩ := h
  replace h := asI_inv h; obtain ⟨z23, rfl, h⟩ := h
  replace h := popA_inv h; obtain ⟨v24, c25, rfl, h⟩ := h
  replace h := asS_inv h; obtain ⟨z26, rfl, h⟩ := h
  replace h := popN_inv h; obtain ⟨rfl, h⟩ := h
  replace h := popN_inv h; obtain ⟨rfl, h⟩ := h
  exact (cadastreref4_Store_j4_eq0 k K (⟨z9, z12, z15⟩ : S23) (⟨z20, z23, z26⟩ : S23)).trans h
theorem cadastreref4_Store_j8_eq1 {ρ : Type} (k : Nat) (K : Ex → St UU → Option ρ) (t1 : Int) (v2 : S23) (t4 : S23) : exec UX (cadastreref4_Store_cfg k) (cadastreref4_Store_G k) (cadastreref4_Store_J.getD 1 .skip) ⟨[(1, .pv (.int .i64 t1)), (2, .ptr 2 0), (4, .ptr 4 0)], [(2, [.pv (.int .i64 v2.f0), .pv (.int .i64 v2.f1), .pv (.str v2.f2)]), (4, [.pv (.int .i64 t4.f0), .pv (.int .i64 t4.f1), .pv (.str t4.f2)])]⟩ (nrmK UX (cadastreref4_Store_cfg k) 8 K) = cadastreref4_Store_j8 k (fun t5 t4 => K .ret ⟨[(4, .ptr 4 0), (5, .pv (.int .i64 t5))], [(4, [.pv (.int .i64 t4.f0), .pv (.int .i64 t4.f1), .pv (.str t4.f2)])]⟩) (fun t4 => K .nxt ⟨[(4, .ptr 4 0)], [(4, [.pv (.int .i64 t4.f0), .pv (.int .i64 t4.f1), .pv (.str t4.f2)])]⟩) t1 v2 t4 := by kernel_rfl
theorem cadastreref4_Store_j8_ok1 {ρ : Type} (k : Nat) : JoinOK UX (cadastreref4_Store_cfg (ρ := ρ) k) (cadastreref4_Store_G k) (cadastreref4_Store_J.getD 1 .skip) 8 (cadastreref4_Store_j8_s k) := by
  intro s K r h
  obtain ⟨env, hp⟩ := s
  unfold cadastreref4_Store_j8_s at h
  replace h := popS_inv h; obtain ⟨v1, e2, rfl, h⟩ := h
  replace h := asI_inv h; obtain ⟨t1, rfl, h⟩ := h
  replace h := popS_inv h; obtain ⟨v3, e4, rfl, h⟩ := h
  replace h := asP_inv h; obtain ⟨rfl, h⟩ := h
  replace h := popS_inv h; obtain ⟨v5, e6, rfl, h⟩ := h
  replace h := asP_inv h; obtain ⟨rfl, h⟩ := h
  replace h := popN_inv h; obtain ⟨rfl, h⟩ := h
  replace h := popB_inv h; obtain ⟨c7, e8, rfl, h⟩ := h
  replace h := popA_inv h; obtain ⟨v9, c10, rfl, h⟩ := h
  replace h := asI_inv h; obtain ⟨z11, rfl, h⟩ := h
  replace h := popA_inv h; obtain ⟨v12, c13, rfl, h⟩ := h
  replace h := asI_inv h; obtain ⟨z14, rfl, h⟩ := h
  replace h := popA_inv h; obtain ⟨v15, c16, rfl, h⟩ := h
  replace h := asS_inv h; obtain ⟨z17, rfl, h⟩ := h
  replace h := popN_inv h; obtain ⟨rfl, h⟩ := h
  replace h := popB_inv h; obtain ⟨c18, e19, rfl, h⟩ := h
  replace h := popA_inv h; obtain ⟨v20, c21, rfl, h⟩ := h
  replace h := asI_inv h; obtain ⟨z22, rfl, h⟩ := h
  replace h := popA_inv h; obtain ⟨v23, c24, rfl, h⟩ := h
  replace h := asI_inv h; obtain ⟨z25, rfl, h⟩ := h
  replace h := popA_inv h; obtain ⟨v26, c27, rfl, h⟩ := h
  replace h := asS_inv h; obtain ⟨z28, rfl, h⟩ := h
  replace h := popN_inv h; obtain ⟨rfl, h⟩ := h
  replace h := popN_inv h; obtain ⟨rfl, h⟩ := h
  exact (cadastreref4_Store_j8_eq1 k K t1 (⟨z11, z14, z17⟩ : S23) (⟨z22, z25, z28⟩ : S23)).trans h
theorem cadastreref4_Store_j10_eq2 {ρ : Type} (k : Nat) (K : Ex → St UU → Option ρ) (t1 : Int) (v2 : S23) (t4 : S23) : exec UX (cadastreref4_Store_cfg k) (cadastreref4_Store_G k) (cadastreref4_Store_J.getD 2 .skip) ⟨[(1, .pv (.int .i64 t1)), (2, .ptr 2 0), (4, .ptr 4 0)], [(2, [.pv (.int .i64 v2.f0), .pv (.int .i64 v2.f1), .pv (.str v2.f2)]), (4, [.pv (.int .i64 t4.f0), .pv (.int .i64 t4.f1), .pv (.str t4.f2)])]⟩ (nrmK UX (cadastreref4_Store_cfg k) 10 K) = cadastreref4_Store_j10 k (fun t5 t4 => K .ret ⟨[(4, .ptr 4 0), (5, .pv (.int .i64 t5))], [(4, [.pv (.int .i64 t4.f0), .pv (.int .i64 t4.f1), .pv (.str t4.f2)])]⟩) (fun t4 => K .nxt ⟨[(4, .ptr 4 0)], [(4, [.pv (.int .i64 t4.f0), .pv (.int .i64 t4.f1), .pv (.str t4.f2)])]⟩) t1 v2 t4 := by kernel_rfl
theorem cadastreref4_Store_j10_ok2 {ρ : Type} (k : Nat) : JoinOK UX (cadastreref4_Store_cfg (ρ := ρ) k) (cadastreref4_Store_G k) (cadastreref4_Store_J.getD 2 .skip) 10 (cadastreref4_Store_j10_s k) := by
  intro s K r h
  obtain ⟨env, hp⟩ := s
  unfold cadastreref4_Store_j10_s at h
  replace h := popS_inv h; obtain ⟨v1, e2, rfl, h⟩ := h
  replace h := asI_inv h; obtain ⟨t1, rfl, h⟩ := h
  replace h := popS_inv h; obtain ⟨v3, e4, rfl, h⟩ := h
  replace h := asP_inv h; obtain ⟨rfl, h⟩ := h
  replace h := popS_inv h; obtain ⟨v5, e6, rfl, h⟩ := h
  replace h := asP_inv h; obtain ⟨rfl, h⟩ := h
  replace h := popN_inv h; obtain ⟨rfl, h⟩ := h
  replace h := popB_inv h; obtain ⟨c7, e8, rfl, h⟩ := h
  replace h := popA_inv h; obtain ⟨v9, c10, rfl, h⟩ := h
  replace h := asI_inv h; obtain ⟨z11, rfl, h⟩ := h
  replace h := popA_inv h; obtain ⟨v12, c13, rfl, h⟩ := h
  replace h := asI_inv h; obtain ⟨z14, rfl, h⟩ := h
  replace h := popA_inv h; obtain ⟨v15, c16, rfl, h⟩ := h
  replace h := asS_inv h; obtain ⟨z17, rfl, h⟩ := h
  replace h := popN_inv h; obtain ⟨rfl, h⟩ := h
  replace h := popB_inv h; obtain ⟨c18, e19, rfl, h⟩ := h
  replace h := popA_inv h; obtain ⟨v20, c21, rfl, h⟩ := h
  replace h := asI_inv h; obtain ⟨z22, rfl, h⟩ := h
  replace h := popA_inv h; obtain ⟨v23, c24, rfl, h⟩ := h
  replace h := asI_inv h; obtain ⟨z25, rfl, h⟩ := h
  replace h := popA_inv h; obtain ⟨v26, c27, rfl, h⟩ := h
  replace h := asS_inv h; obtain ⟨z28, rfl, h⟩ := h
  replace h := popN_inv h; obtain ⟨rfl, h⟩ := h
  replace h := popN_inv h; obtain ⟨rfl, h⟩ := h
  exact (cadastreref4_Store_j10_eq2 k K t1 (⟨z11, z14, z17⟩ : S23) (⟨z22, z25, z28⟩ : S23)).trans h
theorem cadastreref4_Store_cok {ρ : Type} (k : Nat) : COK (cadastreref4_Store_cfg (ρ := ρ) k) (cadastreref4_Store_G k) cadastreref4_Store_code :=
  cok_of (tl := []) (tj := [(4, cadastreref4_Store_j4_s k), (10, cadastreref4_Store_j10_s k), (8, cadastreref4_Store_j8_s k)]) (tb := []) rfl rfl rfl (nil_all (by kernel_rfl)) (all_nth 3 (by kernel_rfl) ⟨join_case (by kernel_rfl) rfl (cadastreref4_Store_j10_ok2 k), join_case (by kernel_rfl) rfl (cadastreref4_Store_j8_ok1 k), join_case (by kernel_rfl) rfl (cadastreref4_Store_j4_ok0 k), trivial⟩) (fun p hp => by cases hp)
noncomputable def cadastreref4_Store_enc (r : S23 × Int) : AV UU := .pv (.tup [.typ (.s23 r.1), .int .i64 r.2])
noncomputable def cadastreref4_Store_dec (v : AV UU) (_ : List (List (AV UU))) : Option (S23 × Int) :=
asT v fun q1 =>
popA q1 fun p2 q3 =>
as_s23 (.pv p2) fun r0 =>
popA q3 fun p4 q5 =>
asI .i64 (.pv p4) fun r1 =>
popN q5 <|
some (r0, r1)
theorem cadastreref4_Store_dec_enc (v : AV UU) (b : List (List (AV UU))) (r : S23 × Int) (h : cadastreref4_Store_dec v b = some r) : v = cadastreref4_Store_enc r := by
  unfold cadastreref4_Store_dec at h
  replace h := asT_inv h; obtain ⟨q1, rfl, h⟩ := h
  replace h := popA_inv h; obtain ⟨p2, q3, rfl, h⟩ := h
  replace h := as_s23_inv h; obtain ⟨r0, e, h⟩ := h; cases e
  replace h := popA_inv h; obtain ⟨p4, q5, rfl, h⟩ := h
  replace h := asI_inv h; obtain ⟨r1, e, h⟩ := h; cases e
  replace h := popN_inv h; obtain ⟨rfl, h⟩ := h
  cases h
  rfl
theorem cadastreref4_Store_eq (k : Nat) (v0 : S23) (t1 : Int) : bodyK UX (cadastreref4_Store_cfg k) (cadastreref4_Store_G k) Tryd.f13 [.pv (.typ (.s23 v0)), .pv (.int .i64 t1)] [] cadastreref4_Store_dec = cadastreref4_Store k v0 t1 := by kernel_rfl
theorem cadastreref4_Store_con (k : Nat) (v0 : S23) (t1 : Int) (r : S23 × Int) (h : cadastreref4_Store k v0 t1 = some r) : Con (X := UX) Tryd.prog 13 [.pv (.typ (.s23 v0)), .pv (.int .i64 t1)] [] (cadastreref4_Store_enc r) [] :=
  con_of_body xok tok Tryd.func13 cadastreref4_Store_body (cadastreref4_Store_gok k) rfl (cadastreref4_Store_cok k) (of_decide_eq_true (by kernel_rfl)) cadastreref4_Store_dec_enc ((cadastreref4_Store_eq k v0 t1).trans h)
noncomputable def cadastreref4_Store_an {ρ : Type} (k : Nat) : An UX ρ := fun args bx K =>
popA args fun v1 a2 =>
as_s23 v1 fun v0 =>
popA a2 fun v3 a4 =>
asI .i64 v3 fun t1 =>
popN a4 <|
popN bx <|
(cadastreref4_Store k v0 t1).bind fun r => K (cadastreref4_Store_enc r) []
theorem cadastreref4_Store_ok {ρ : Type} (k : Nat) : AnsOK Tryd.prog 13 (cadastreref4_Store_an (ρ := ρ) k) := by
  intro args bx K r h
  unfold cadastreref4_Store_an at h
  replace h := popA_inv h; obtain ⟨v1, a2, rfl, h⟩ := h
  replace h := as_s23_inv h; obtain ⟨v0, rfl, h⟩ := h
  replace h := popA_inv h; obtain ⟨v3, a4, rfl, h⟩ := h
  replace h := asI_inv h; obtain ⟨t1, rfl, h⟩ := h
  replace h := popN_inv h; obtain ⟨rfl, h⟩ := h
  replace h := popN_inv h; obtain ⟨rfl, h⟩ := h
  replace h := bind_inv h
  obtain ⟨x, hx, h⟩ := h
  exact ⟨there_of Tryd.func13 (by kernel_rfl) cadastreref4_Store_body, _, _, h, cadastreref4_Store_con k v0 t1 x hx⟩
end Go.Proofs.YtdfmfpbdggefpaaDoor.D
