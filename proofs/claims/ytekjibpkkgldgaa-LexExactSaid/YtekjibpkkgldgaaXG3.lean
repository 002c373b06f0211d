/-
  What the program's functions answer: the printed functions' answers.
-/
import Derived.Test.YtekjibpkkgldgaaXG2
namespace Go.Proofs.Ytekjibpkkgldgaa.X
open Go Go.AX
/-! cadastre/cadastreref4.Int -/
noncomputable def cadastreref4_Int_code : Code := match Try.f95.body with | some c => c | none => .skip
theorem cadastreref4_Int_body : Try.f95.body = some cadastreref4_Int_code := by kernel_rfl
noncomputable def cadastreref4_Int_G {ρ : Type} (k : Nat) : Ans UX ρ := gk 99 (cadastreref2_Int_an k) (gk 107 (cadastreref4_Do_an k) (gnil))
theorem cadastreref4_Int_gok {ρ : Type} (k : Nat) : GOK Try.prog (cadastreref4_Int_G (ρ := ρ) k) := gok_cons (cadastreref2_Int_ok k) (gok_cons (cadastreref4_Do_ok k) (gok_nil))
noncomputable def cadastreref4_Int_l8_s {ρ : Type} (k : Nat) : Run UX ρ := fun s K =>
popS 0 s.env fun v1 e2 =>
asS v1 fun s0 =>
popS 4 e2 fun v3 e4 =>
asI .i64 v3 fun i4 =>
popS 5 e4 fun v5 e6 =>
asB v5 fun minus5 =>
popS 6 e6 fun v7 e8 =>
asI .i64 v7 fun k6 =>
popN e8 <|
popN s.hp <|
cadastreref4_Int_l8 k (fun t2 t3 => K .ret ⟨[(2, .pv (.int .i64 t2)), (3, .pv (.int .i64 t3))], []⟩) (fun s0 i4 minus5 => K (.exit 0) ⟨[(0, .pv (.str s0)), (4, .pv (.int .i64 i4)), (5, .pv (.bool minus5))], []⟩) k s0 i4 minus5 k6
noncomputable def cadastreref4_Int_l18_s {ρ : Type} (k : Nat) : Run UX ρ := fun s K =>
popS 0 s.env fun v1 e2 =>
asS v1 fun s0 =>
popS 7 e2 fun v3 e4 =>
asP 7 0 v3 <|
popS 9 e4 fun v5 e6 =>
asI .i64 v5 fun op9 =>
popS 10 e6 fun v7 e8 =>
asI .i64 v7 fun k10 =>
popN e8 <|
popB 7 s.hp fun c9 e10 =>
popA c9 fun v11 c12 =>
asI .i64 v11 fun z13 =>
popA c12 fun v14 c15 =>
asI .i64 v14 fun z16 =>
popA c15 fun v17 c18 =>
asS v17 fun z19 =>
popN c18 <|
popN e10 <|
cadastreref4_Int_l18 k (fun t2 t3 => K .ret ⟨[(2, .pv (.int .i64 t2)), (3, .pv (.int .i64 t3))], []⟩) (fun n7 => K (.exit 2) ⟨[(7, .ptr 7 0)], [(7, [.pv (.int .i64 n7.f0), .pv (.int .i64 n7.f1), .pv (.str n7.f2)])]⟩) k s0 op9 k10 (⟨z13, z16, z19⟩ : S44)
noncomputable def cadastreref4_Int_j17_s {ρ : Type} (k : Nat) : Run UX ρ := fun s K =>
popS 0 s.env fun v1 e2 =>
asS v1 fun s0 =>
popS 4 e2 fun v3 e4 =>
asI .i64 v3 fun i4 =>
popS 7 e4 fun v5 e6 =>
asP 7 0 v5 <|
popS 9 e6 fun v7 e8 =>
asI .i64 v7 fun op9 =>
popN e8 <|
popB 7 s.hp fun c9 e10 =>
popA c9 fun v11 c12 =>
asI .i64 v11 fun z13 =>
popA c12 fun v14 c15 =>
asI .i64 v14 fun z16 =>
popA c15 fun v17 c18 =>
asS v17 fun z19 =>
popN c18 <|
popN e10 <|
cadastreref4_Int_j17 k (fun t2 t3 => K .ret ⟨[(2, .pv (.int .i64 t2)), (3, .pv (.int .i64 t3))], []⟩) s0 i4 op9 (⟨z13, z16, z19⟩ : S44)
noncomputable def cadastreref4_Int_j5_s {ρ : Type} (k : Nat) : Run UX ρ := fun s K =>
popS 0 s.env fun v1 e2 =>
asS v1 fun s0 =>
popS 4 e2 fun v3 e4 =>
asI .i64 v3 fun i4 =>
popS 5 e4 fun v5 e6 =>
asB v5 fun minus5 =>
popN e6 <|
popN s.hp <|
cadastreref4_Int_j5 k (fun t2 t3 => K .ret ⟨[(2, .pv (.int .i64 t2)), (3, .pv (.int .i64 t3))], []⟩) s0 i4 minus5
noncomputable def cadastreref4_Int_j3_s {ρ : Type} (k : Nat) : Run UX ρ := fun s K =>
popS 0 s.env fun v1 e2 =>
asS v1 fun s0 =>
popS 4 e2 fun v3 e4 =>
asI .i64 v3 fun i4 =>
popS 5 e4 fun v5 e6 =>
asB v5 fun minus5 =>
popN e6 <|
popN s.hp <|
cadastreref4_Int_j3 k (fun t2 t3 => K .ret ⟨[(2, .pv (.int .i64 t2)), (3, .pv (.int .i64 t3))], []⟩) s0 i4 minus5
noncomputable def cadastreref4_Int_cfg {ρ : Type} (k : Nat) : Cfg UX ρ where
  live i := (assoc [(0, [0]), (1, [0]), (2, [0, 4]), (3, [0, 4, 5]), (4, [0, 5]), (5, [0, 4, 5]), (6, []), (7, [0, 4, 5]), (8, [0, 4, 5, 6]), (9, [0, 4, 5, 6]), (10, [0, 4, 5, 6]), (11, []), (12, [0, 4, 5]), (13, [0, 4, 5, 7]), (14, [0, 4, 5, 7]), (15, [0, 4, 5, 7, 9]), (16, [0, 4, 7]), (17, [0, 4, 7, 9]), (18, [0, 7, 9, 10]), (19, [0, 7, 9, 10]), (20, [0, 7, 9, 10]), (21, [0, 7, 8, 9, 10]), (22, [0, 7, 9, 10]), (23, [0, 7, 8, 9, 10]), (24, [8]), (25, [7])] i).getD []
  boxes i := (assoc [(0, []), (1, []), (2, []), (3, []), (4, []), (5, []), (6, []), (7, []), (8, []), (9, []), (10, []), (11, []), (12, []), (13, [7]), (14, [7]), (15, [7]), (16, [7]), (17, [7]), (18, [7]), (19, [7]), (20, [7]), (21, [7]), (22, [7]), (23, [7]), (24, []), (25, [7])] i).getD []
  tk i := (assoc [] i).getD []
  n := 85
  labelR l := (assoc [] l).getD 0
  loops := assoc [(8, cadastreref4_Int_l8_s k), (18, cadastreref4_Int_l18_s k)]
  labels := assoc []
  joins := assoc [(17, cadastreref4_Int_j17_s k), (5, cadastreref4_Int_j5_s k), (3, cadastreref4_Int_j3_s k)]
  xl i e := match e with
    | .nxt => assoc [] i
    | .ret => assoc [(8, ([2, 3], [])), (18, ([2, 3], [])), (17, ([2, 3], [])), (5, ([2, 3], [])), (3, ([2, 3], []))] i
    | .exit j => (assoc [(8, [(0, ([0, 4, 5], []))]), (18, [(2, ([7], [7]))])] i).bind fun l => assoc l j
    | .goto j => (assoc [] i).bind fun l => assoc l j
noncomputable def cadastreref4_Int_L : List Code := selI [8, 18] (loopsOf cadastreref4_Int_code)
noncomputable def cadastreref4_Int_J : List Code := selI [17, 5, 3] (joinsOf cadastreref4_Int_code)
noncomputable def cadastreref4_Int_S : List Code := scopesOf cadastreref4_Int_code
theorem cadastreref4_Int_l8_eq0 {ρ : Type} (k : Nat) (K : Ex → St UU → Option ρ) : ∀ (n : Nat) (v : ByteArray × Int × Bool × Int), iterK UX (fun s => s.at (cadastreref4_Int_cfg (ρ := ρ) k).live (cadastreref4_Int_cfg (ρ := ρ) k).boxes (some 8)) (exec UX (cadastreref4_Int_cfg k) (cadastreref4_Int_G k) (cadastreref4_Int_L.getD 0 .skip)) n ⟨[(0, .pv (.str v.1)), (4, .pv (.int .i64 v.2.1)), (5, .pv (.bool v.2.2.1)), (6, .pv (.int .i64 v.2.2.2))], []⟩ (nrmK UX (cadastreref4_Int_cfg k) 8 K) = cadastreref4_Int_l8 k (fun t2 t3 => K .ret ⟨[(2, .pv (.int .i64 t2)), (3, .pv (.int .i64 t3))], []⟩) (fun s0 i4 minus5 => K (.exit 0) ⟨[(0, .pv (.str s0)), (4, .pv (.int .i64 i4)), (5, .pv (.bool minus5))], []⟩) n v.1 v.2.1 v.2.2.1 v.2.2.2 :=
  iter_rec (X := UX) (fun v => ⟨[(0, .pv (.str v.1)), (4, .pv (.int .i64 v.2.1)), (5, .pv (.bool v.2.2.1)), (6, .pv (.int .i64 v.2.2.2))], []⟩) (fun rec v => cadastreref4_Int_l8_b k (fun t2 t3 => K .ret ⟨[(2, .pv (.int .i64 t2)), (3, .pv (.int .i64 t3))], []⟩) (fun s0 i4 minus5 => K (.exit 0) ⟨[(0, .pv (.str s0)), (4, .pv (.int .i64 i4)), (5, .pv (.bool minus5))], []⟩) (fun s0 i4 minus5 k6 => rec (s0, i4, minus5, k6)) v.1 v.2.1 v.2.2.1 v.2.2.2) (fun n v => cadastreref4_Int_l8 k (fun t2 t3 => K .ret ⟨[(2, .pv (.int .i64 t2)), (3, .pv (.int .i64 t3))], []⟩) (fun s0 i4 minus5 => K (.exit 0) ⟨[(0, .pv (.str s0)), (4, .pv (.int .i64 i4)), (5, .pv (.bool minus5))], []⟩) n v.1 v.2.1 v.2.2.1 v.2.2.2) (fun n v => by kernel_rfl) (fun _ => rfl) (fun _ _ => rfl)
theorem cadastreref4_Int_l8_ok0 {ρ : Type} (k : Nat) : IterOK UX (cadastreref4_Int_cfg (ρ := ρ) k) (cadastreref4_Int_G k) (cadastreref4_Int_L.getD 0 .skip) 8 (cadastreref4_Int_l8_s k) := by
  intro s K r h
  obtain ⟨env, hp⟩ := s
  unfold cadastreref4_Int_l8_s at h
  replace h := popS_inv h; obtain ⟨v1, e2, rfl, h⟩ := h
  replace h := asS_inv h; obtain ⟨s0, rfl, h⟩ := h
  replace h := popS_inv h; obtain ⟨v3, e4, rfl, h⟩ := h
  replace h := asI_inv h; obtain ⟨i4, rfl, h⟩ := h
  replace h := popS_inv h; obtain ⟨v5, e6, rfl, h⟩ := h
  replace h := asB_inv h; obtain ⟨minus5, rfl, h⟩ := h
  replace h := popS_inv h; obtain ⟨v7, e8, rfl, h⟩ := h
  replace h := asI_inv h; obtain ⟨k6, rfl, h⟩ := h
  replace h := popN_inv h; obtain ⟨rfl, h⟩ := h
  replace h := popN_inv h; obtain ⟨rfl, h⟩ := h
  exact ⟨k, (cadastreref4_Int_l8_eq0 k K k (s0, i4, minus5, k6)).trans h⟩
theorem cadastreref4_Int_l18_eq1 {ρ : Type} (k : Nat) (K : Ex → St UU → Option ρ) : ∀ (n : Nat) (v : ByteArray × Int × Int × S44), iterK UX (fun s => s.at (cadastreref4_Int_cfg (ρ := ρ) k).live (cadastreref4_Int_cfg (ρ := ρ) k).boxes (some 18)) (exec UX (cadastreref4_Int_cfg k) (cadastreref4_Int_G k) (cadastreref4_Int_L.getD 1 .skip)) n ⟨[(0, .pv (.str v.1)), (7, .ptr 7 0), (9, .pv (.int .i64 v.2.1)), (10, .pv (.int .i64 v.2.2.1))], [(7, [.pv (.int .i64 v.2.2.2.f0), .pv (.int .i64 v.2.2.2.f1), .pv (.str v.2.2.2.f2)])]⟩ (nrmK UX (cadastreref4_Int_cfg k) 18 K) = cadastreref4_Int_l18 k (fun t2 t3 => K .ret ⟨[(2, .pv (.int .i64 t2)), (3, .pv (.int .i64 t3))], []⟩) (fun n7 => K (.exit 2) ⟨[(7, .ptr 7 0)], [(7, [.pv (.int .i64 n7.f0), .pv (.int .i64 n7.f1), .pv (.str n7.f2)])]⟩) n v.1 v.2.1 v.2.2.1 v.2.2.2 :=
  iter_rec (X := UX) (fun v => ⟨[(0, .pv (.str v.1)), (7, .ptr 7 0), (9, .pv (.int .i64 v.2.1)), (10, .pv (.int .i64 v.2.2.1))], [(7, [.pv (.int .i64 v.2.2.2.f0), .pv (.int .i64 v.2.2.2.f1), .pv (.str v.2.2.2.f2)])]⟩) (fun rec v => cadastreref4_Int_l18_b k (fun t2 t3 => K .ret ⟨[(2, .pv (.int .i64 t2)), (3, .pv (.int .i64 t3))], []⟩) (fun n7 => K (.exit 2) ⟨[(7, .ptr 7 0)], [(7, [.pv (.int .i64 n7.f0), .pv (.int .i64 n7.f1), .pv (.str n7.f2)])]⟩) (fun s0 op9 k10 n7 => rec (s0, op9, k10, n7)) v.1 v.2.1 v.2.2.1 v.2.2.2) (fun n v => cadastreref4_Int_l18 k (fun t2 t3 => K .ret ⟨[(2, .pv (.int .i64 t2)), (3, .pv (.int .i64 t3))], []⟩) (fun n7 => K (.exit 2) ⟨[(7, .ptr 7 0)], [(7, [.pv (.int .i64 n7.f0), .pv (.int .i64 n7.f1), .pv (.str n7.f2)])]⟩) n v.1 v.2.1 v.2.2.1 v.2.2.2) (fun n v => by kernel_rfl) (fun _ => rfl) (fun _ _ => rfl)
theorem cadastreref4_Int_l18_ok1 {ρ : Type} (k : Nat) : IterOK UX (cadastreref4_Int_cfg (ρ := ρ) k) (cadastreref4_Int_G k) (cadastreref4_Int_L.getD 1 .skip) 18 (cadastreref4_Int_l18_s k) := by
  intro s K r h
  obtain ⟨env, hp⟩ := s
  unfold cadastreref4_Int_l18_s at h
  replace h := popS_inv h; obtain ⟨v1, e2, rfl, h⟩ := h
  replace h := asS_inv h; obtain ⟨s0, rfl, h⟩ := h
  replace h := popS_inv h; obtain ⟨v3, e4, rfl, h⟩ := h
  replace h := asP_inv h; obtain ⟨rfl, h⟩ := h
  replace h := popS_inv h; obtain ⟨v5, e6, rfl, h⟩ := h
  replace h := asI_inv h; obtain ⟨op9, rfl, h⟩ := h
  replace h := popS_inv h; obtain ⟨v7, e8, rfl, h⟩ := h
  replace h := asI_inv h; obtain ⟨k10, rfl, h⟩ := h
  replace h := popN_inv h; obtain ⟨rfl, h⟩ := h
  replace h := popB_inv h; obtain ⟨c9, e10, rfl, h⟩ := h
  replace h := popA_inv h; obtain ⟨v11, c12, rfl, h⟩ := h
  replace h := asI_inv h; obtain ⟨z13, rfl, h⟩ := h
  replace h := popA_inv h; obtain ⟨v14, c15, rfl, h⟩ := h
  replace h := asI_inv h; obtain ⟨z16, rfl, h⟩ := h
  replace h := popA_inv h; obtain ⟨v17, c18, rfl, h⟩ := h
  replace h := asS_inv h; obtain ⟨z19, rfl, h⟩ := h
  replace h := popN_inv h; obtain ⟨rfl, h⟩ := h
  replace h := popN_inv h; obtain ⟨rfl, h⟩ := h
  exact ⟨k, (cadastreref4_Int_l18_eq1 k K k (s0, op9, k10, (⟨z13, z16, z19⟩ : S44))).trans h⟩
theorem cadastreref4_Int_j3_eq0 {ρ : Type} (k : Nat) (K : Ex → St UU → Option ρ) (s0 : ByteArray) (i4 : Int) (minus5 : Bool) : exec UX (cadastreref4_Int_cfg k) (cadastreref4_Int_G k) (cadastreref4_Int_J.getD 0 .skip) ⟨[(0, .pv (.str s0)), (4, .pv (.int .i64 i4)), (5, .pv (.bool minus5))], []⟩ (nrmK UX (cadastreref4_Int_cfg k) 3 K) = cadastreref4_Int_j3 k (fun t2 t3 => K .ret ⟨[(2, .pv (.int .i64 t2)), (3, .pv (.int .i64 t3))], []⟩) s0 i4 minus5 := by kernel_rfl
theorem cadastreref4_Int_j3_ok0 {ρ : Type} (k : Nat) : JoinOK UX (cadastreref4_Int_cfg (ρ := ρ) k) (cadastreref4_Int_G k) (cadastreref4_Int_J.getD 0 .skip) 3 (cadastreref4_Int_j3_s k) := by
  intro s K r h
  obtain ⟨env, hp⟩ := s
  unfold cadastreref4_Int_j3_s at h
  replace h := popS_inv h; obtain ⟨v1, e2, rfl, h⟩ := h
  replace h := asS_inv h; obtain ⟨s0, rfl, h⟩ := h
  replace h := popS_inv h; obtain ⟨v3, e4, rfl, h⟩ := h
  replace h := asI_inv h; obtain ⟨i4, rfl, h⟩ := h
  replace h := popS_inv h; obtain ⟨v5, e6, rfl, h⟩ := h
  replace h := asB_inv h; obtain ⟨minus5, rfl, h⟩ := h
  replace h := popN_inv h; obtain ⟨rfl, h⟩ := h
  replace h := popN_inv h; obtain ⟨rfl, h⟩ := h
  exact (cadastreref4_Int_j3_eq0 k K s0 i4 minus5).trans h
theorem cadastreref4_Int_j5_eq1 {ρ : Type} (k : Nat) (K : Ex → St UU → Option ρ) (s0 : ByteArray) (i4 : Int) (minus5 : Bool) : exec UX (cadastreref4_Int_cfg k) (cadastreref4_Int_G k) (cadastreref4_Int_J.getD 1 .skip) ⟨[(0, .pv (.str s0)), (4, .pv (.int .i64 i4)), (5, .pv (.bool minus5))], []⟩ (nrmK UX (cadastreref4_Int_cfg k) 5 K) = cadastreref4_Int_j5 k (fun t2 t3 => K .ret ⟨[(2, .pv (.int .i64 t2)), (3, .pv (.int .i64 t3))], []⟩) s0 i4 minus5 := by kernel_rfl
theorem cadastreref4_Int_j5_ok1 {ρ : Type} (k : Nat) : JoinOK UX (cadastreref4_Int_cfg (ρ := ρ) k) (cadastreref4_Int_G k) (cadastreref4_Int_J.getD 1 .skip) 5 (cadastreref4_Int_j5_s k) := by
  intro s K r h
  obtain ⟨env, hp⟩ := s
  unfold cadastreref4_Int_j5_s at h
  replace h := popS_inv h; obtain ⟨v1, e2, rfl, h⟩ := h
  replace h := asS_inv h; obtain ⟨s0, rfl, h⟩ := h
  replace h := popS_inv h; obtain ⟨v3, e4, rfl, h⟩ := h
  replace h := asI_inv h; obtain ⟨i4, rfl, h⟩ := h
  replace h := popS_inv h; obtain ⟨v5, e6, rfl, h⟩ := h
  replace h := asB_inv h; obtain ⟨minus5, rfl, h⟩ := h
  replace h := popN_inv h; obtain ⟨rfl, h⟩ := h
  replace h := popN_inv h; obtain ⟨rfl, h⟩ := h
  exact (cadastreref4_Int_j5_eq1 k K s0 i4 minus5).trans h
theorem cadastreref4_Int_j17_eq2 {ρ : Type} (k : Nat) (K : Ex → St UU → Option ρ) (s0 : ByteArray) (i4 : Int) (op9 : Int) (n7 : S44) : exec UX (cadastreref4_Int_cfg k) (cadastreref4_Int_G k) (cadastreref4_Int_J.getD 2 .skip) ⟨[(0, .pv (.str s0)), (4, .pv (.int .i64 i4)), (7, .ptr 7 0), (9, .pv (.int .i64 op9))], [(7, [.pv (.int .i64 n7.f0), .pv (.int .i64 n7.f1), .pv (.str n7.f2)])]⟩ (nrmK UX (cadastreref4_Int_cfg k) 17 K) = cadastreref4_Int_j17 k (fun t2 t3 => K .ret ⟨[(2, .pv (.int .i64 t2)), (3, .pv (.int .i64 t3))], []⟩) s0 i4 op9 n7 := by kernel_rfl
theorem cadastreref4_Int_j17_ok2 {ρ : Type} (k : Nat) : JoinOK UX (cadastreref4_Int_cfg (ρ := ρ) k) (cadastreref4_Int_G k) (cadastreref4_Int_J.getD 2 .skip) 17 (cadastreref4_Int_j17_s k) := by
  intro s K r h
  obtain ⟨env, hp⟩ := s
  unfold cadastreref4_Int_j17_s at h
  replace h := popS_inv h; obtain ⟨v1, e2, rfl, h⟩ := h
  replace h := asS_inv h; obtain ⟨s0, rfl, h⟩ := h
  replace h := popS_inv h; obtain ⟨v3, e4, rfl, h⟩ := h
  replace h := asI_inv h; obtain ⟨i4, rfl, h⟩ := h
  replace h := popS_inv h; obtain ⟨v5, e6, rfl, h⟩ := h
  replace h := asP_inv h; obtain ⟨rfl, h⟩ := h
  replace h := popS_inv h; obtain ⟨v7, e8, rfl, h⟩ := h
  replace h := asI_inv h; obtain ⟨op9, rfl, h⟩ := h
  replace h := popN_inv h; obtain ⟨rfl, h⟩ := h
  replace h := popB_inv h; obtain ⟨c9, e10, rfl, h⟩ := h
  replace h := popA_inv h; obtain ⟨v11, c12, rfl, h⟩ := h
  replace h := asI_inv h; obtain ⟨z13, rfl, h⟩ := h
  replace h := popA_inv h; obtain ⟨v14, c15, rfl, h⟩ := h
  replace h := asI_inv h; obtain ⟨z16, rfl, h⟩ := h
  replace h := popA_inv h; obtain ⟨v17, c18, rfl, h⟩ := h
  replace h := asS_inv h; obtain ⟨z19, rfl, h⟩ := h
  replace h := popN_inv h; obtain ⟨rfl, h⟩ := h
  replace h := popN_inv h; obtain ⟨rfl, h⟩ := h
  exact (cadastreref4_Int_j17_eq2 k K s0 i4 op9 (⟨z13, z16, z19⟩ : S44)).trans h
theorem cadastreref4_Int_cok {ρ : Type} (k : Nat) : COK (cadastreref4_Int_cfg (ρ := ρ) k) (cadastreref4_Int_G k) cadastreref4_Int_code :=
  cok_of (tl := [(8, cadastreref4_Int_l8_s k), (18, cadastreref4_Int_l18_s k)]) (tj := [(17, cadastreref4_Int_j17_s k), (5, cadastreref4_Int_j5_s k), (3, cadastreref4_Int_j3_s k)]) (tb := []) rfl rfl rfl (all_nth 2 (by kernel_rfl) ⟨iter_case (by kernel_rfl) rfl (cadastreref4_Int_l18_ok1 k), iter_case (by kernel_rfl) rfl (cadastreref4_Int_l8_ok0 k), trivial⟩) (all_nth 3 (by kernel_rfl) ⟨join_case (by kernel_rfl) rfl (cadastreref4_Int_j17_ok2 k), join_case (by kernel_rfl) rfl (cadastreref4_Int_j5_ok1 k), join_case (by kernel_rfl) rfl (cadastreref4_Int_j3_ok0 k), trivial⟩) (fun p hp => by cases hp)
noncomputable def cadastreref4_Int_enc (r : Int × Int) : AV UU := .pv (.tup [.int .i64 r.1, .int .i64 r.2])
noncomputable def cadastreref4_Int_dec (v : AV UU) (_ : List (List (AV UU))) : Option (Int × Int) :=
asT v fun q1 =>
popA q1 fun p2 q3 =>
asI .i64 (.pv p2) fun r0 =>
popA q3 fun p4 q5 =>
asI .i64 (.pv p4) fun r1 =>
popN q5 <|
some (r0, r1)
theorem cadastreref4_Int_dec_enc (v : AV UU) (b : List (List (AV UU))) (r : Int × Int) (h : cadastreref4_Int_dec v b = some r) : v = cadastreref4_Int_enc r := by
  unfold cadastreref4_Int_dec at h
  replace h := asT_inv h; obtain ⟨q1, rfl, h⟩ := h
  replace h := popA_inv h; obtain ⟨p2, q3, rfl, h⟩ := h
  replace h := asI_inv h; obtain ⟨r0, e, h⟩ := h; cases e
  replace h := popA_inv h; obtain ⟨p4, q5, rfl, h⟩ := h
  replace h := asI_inv h; obtain ⟨r1, e, h⟩ := h; cases e
  replace h := popN_inv h; obtain ⟨rfl, h⟩ := h
  cases h
  rfl
theorem cadastreref4_Int_eq (k : Nat) (s0 : ByteArray) : bodyK UX (cadastreref4_Int_cfg k) (cadastreref4_Int_G k) Try.f95 [.pv (.str s0)] [] cadastreref4_Int_dec = cadastreref4_Int k s0 := by kernel_rfl
theorem cadastreref4_Int_con (k : Nat) (s0 : ByteArray) (r : Int × Int) (h : cadastreref4_Int k s0 = some r) : Con (X := UX) Try.prog 95 [.pv (.str s0)] [] (cadastreref4_Int_enc r) [] :=
  con_of_body xok tok Try.func95 cadastreref4_Int_body (cadastreref4_Int_gok k) rfl (cadastreref4_Int_cok k) (of_decide_eq_true (by kernel_rfl)) cadastreref4_Int_dec_enc ((cadastreref4_Int_eq k s0).trans h)
noncomputable def cadastreref4_Int_an {ρ : Type} (k : Nat) : An UX ρ := fun args bx K =>
popA args fun v1 a2 =>
asS v1 fun s0 =>
popN a2 <|
popN bx <|
(cadastreref4_Int k s0).bind fun r => K (cadastreref4_Int_enc r) []
theorem cadastreref4_Int_ok {ρ : Type} (k : Nat) : AnsOK Try.prog 95 (cadastreref4_Int_an (ρ := ρ) k) := by
  intro args bx K r h
  unfold cadastreref4_Int_an at h
  replace h := popA_inv h; obtain ⟨v1, a2, rfl, h⟩ := h
  replace h := asS_inv h; obtain ⟨s0, rfl, h⟩ := h
  replace h := popN_inv h; obtain ⟨rfl, h⟩ := h
  replace h := popN_inv h; obtain ⟨rfl, h⟩ := h
  replace h := bind_inv h
  obtain ⟨x, hx, h⟩ := h
  exact ⟨there_of Try.func95 (by kernel_rfl) cadastreref4_Int_body, _, _, h, cadastreref4_Int_con k s0 x hx⟩

/-! cadastre/cadastreref19.quoted -/
noncomputable def cadastreref19_quoted_code : Code := match Try.f96.body with | some c => c | none => .skip
theorem cadastreref19_quoted_body : Try.f96.body = some cadastreref19_quoted_code := by kernel_rfl
noncomputable def cadastreref19_quoted_G {ρ : Type} (k : Nat) : Ans UX ρ := gnil
theorem cadastreref19_quoted_gok {ρ : Type} (k : Nat) : GOK Try.prog (cadastreref19_quoted_G (ρ := ρ) k) := gok_nil
noncomputable def cadastreref19_quoted_l3_s {ρ : Type} (k : Nat) : Run UX ρ := fun s K =>
popS 0 s.env fun v1 e2 =>
asS v1 fun s0 =>
popS 6 e2 fun v3 e4 =>
asO_li_u8 v3 fun b6 =>
popS 7 e4 fun v5 e6 =>
asI .i64 v5 fun i7 =>
popN e6 <|
popN s.hp <|
cadastreref19_quoted_l3 k (fun t4 t5 => K .ret ⟨[(4, .pv (.str t4)), (5, .pv (.int .i64 t5))], []⟩) (K (.exit 0) ⟨[], []⟩) k s0 b6 i7
noncomputable def cadastreref19_quoted_cfg {ρ : Type} (k : Nat) : Cfg UX ρ where
  live i := (assoc [(0, [0, 1]), (1, [0, 1]), (2, [0, 1, 6]), (3, [0, 6, 7]), (4, [0, 6, 7]), (5, [0, 6, 7]), (6, [0, 6, 7]), (7, [0, 6, 7]), (8, [0, 6, 7]), (9, [0, 6, 7]), (10, [6, 7]), (11, [])] i).getD []
  boxes i := (assoc [(0, []), (1, []), (2, []), (3, []), (4, []), (5, []), (6, []), (7, []), (8, []), (9, []), (10, []), (11, [])] i).getD []
  tk i := (assoc [(1000000, [6])] i).getD []
  n := 47
  labelR l := (assoc [] l).getD 0
  loops := assoc [(3, cadastreref19_quoted_l3_s k)]
  labels := assoc []
  joins := assoc []
  xl i e := match e with
    | .nxt => assoc [] i
    | .ret => assoc [(3, ([4, 5], []))] i
    | .exit j => (assoc [(3, [(0, ([], []))])] i).bind fun l => assoc l j
    | .goto j => (assoc [] i).bind fun l => assoc l j
noncomputable def cadastreref19_quoted_L : List Code := selI [3] (loopsOf cadastreref19_quoted_code)
noncomputable def cadastreref19_quoted_J : List Code := selI [] (joinsOf cadastreref19_quoted_code)
noncomputable def cadastreref19_quoted_S : List Code := scopesOf cadastreref19_quoted_code
theorem cadastreref19_quoted_l3_eq0 {ρ : Type} (k : Nat) (K : Ex → St UU → Option ρ) : ∀ (n : Nat) (v : ByteArray × (List Int) × Int), iterK UX (fun s => s.at (cadastreref19_quoted_cfg (ρ := ρ) k).live (cadastreref19_quoted_cfg (ρ := ρ) k).boxes (some 3)) (exec UX (cadastreref19_quoted_cfg k) (cadastreref19_quoted_G k) (cadastreref19_quoted_L.getD 0 .skip)) n ⟨[(0, .pv (.str v.1)), (6, .own (.li_u8 v.2.1)), (7, .pv (.int .i64 v.2.2))], []⟩ (nrmK UX (cadastreref19_quoted_cfg k) 3 K) = cadastreref19_quoted_l3 k (fun t4 t5 => K .ret ⟨[(4, .pv (.str t4)), (5, .pv (.int .i64 t5))], []⟩) (K (.exit 0) ⟨[], []⟩) n v.1 v.2.1 v.2.2 :=
  iter_rec (X := UX) (fun v => ⟨[(0, .pv (.str v.1)), (6, .own (.li_u8 v.2.1)), (7, .pv (.int .i64 v.2.2))], []⟩) (fun rec v => cadastreref19_quoted_l3_b k (fun t4 t5 => K .ret ⟨[(4, .pv (.str t4)), (5, .pv (.int .i64 t5))], []⟩) (K (.exit 0) ⟨[], []⟩) (fun s0 b6 i7 => rec (s0, b6, i7)) v.1 v.2.1 v.2.2) (fun n v => cadastreref19_quoted_l3 k (fun t4 t5 => K .ret ⟨[(4, .pv (.str t4)), (5, .pv (.int .i64 t5))], []⟩) (K (.exit 0) ⟨[], []⟩) n v.1 v.2.1 v.2.2) (fun n v => by kernel_rfl) (fun _ => rfl) (fun _ _ => rfl)
theorem cadastreref19_quoted_l3_ok0 {ρ : Type} (k : Nat) : IterOK UX (cadastreref19_quoted_cfg (ρ := ρ) k) (cadastreref19_quoted_G k) (cadastreref19_quoted_L.getD 0 .skip) 3 (cadastreref19_quoted_l3_s k) := by
  intro s K r h
  obtain ⟨env, hp⟩ := s
  unfold cadastreref19_quoted_l3_s at h
  replace h := popS_inv h; obtain ⟨v1, e2, rfl, h⟩ := h
  replace h := asS_inv h; obtain ⟨s0, rfl, h⟩ := h
  replace h := popS_inv h; obtain ⟨v3, e4, rfl, h⟩ := h
  replace h := asO_li_u8_inv h; obtain ⟨b6, rfl, h⟩ := h
  replace h := popS_inv h; obtain ⟨v5, e6, rfl, h⟩ := h
  replace h := asI_inv h; obtain ⟨i7, rfl, h⟩ := h
  replace h := popN_inv h; obtain ⟨rfl, h⟩ := h
  replace h := popN_inv h; obtain ⟨rfl, h⟩ := h
  exact ⟨k, (cadastreref19_quoted_l3_eq0 k K k (s0, b6, i7)).trans h⟩
theorem cadastreref19_quoted_cok {ρ : Type} (k : Nat) : COK (cadastreref19_quoted_cfg (ρ := ρ) k) (cadastreref19_quoted_G k) cadastreref19_quoted_code :=
  cok_of (tl := [(3, cadastreref19_quoted_l3_s k)]) (tj := []) (tb := []) rfl rfl rfl (all_nth 1 (by kernel_rfl) ⟨iter_case (by kernel_rfl) rfl (cadastreref19_quoted_l3_ok0 k), trivial⟩) (nil_all (by kernel_rfl)) (fun p hp => by cases hp)
noncomputable def cadastreref19_quoted_enc (r : ByteArray × Int) : AV UU := .pv (.tup [.str r.1, .int .i64 r.2])
noncomputable def cadastreref19_quoted_dec (v : AV UU) (_ : List (List (AV UU))) : Option (ByteArray × Int) :=
asT v fun q1 =>
popA q1 fun p2 q3 =>
asS (.pv p2) fun r0 =>
popA q3 fun p4 q5 =>
asI .i64 (.pv p4) fun r1 =>
popN q5 <|
some (r0, r1)
theorem cadastreref19_quoted_dec_enc (v : AV UU) (b : List (List (AV UU))) (r : ByteArray × Int) (h : cadastreref19_quoted_dec v b = some r) : v = cadastreref19_quoted_enc r := by
  unfold cadastreref19_quoted_dec at h
  replace h := asT_inv h; obtain ⟨q1, rfl, h⟩ := h
  replace h := popA_inv h; obtain ⟨p2, q3, rfl, h⟩ := h
  replace h := asS_inv h; obtain ⟨r0, e, h⟩ := h; cases e
  replace h := popA_inv h; obtain ⟨p4, q5, rfl, h⟩ := h
  replace h := asI_inv h; obtain ⟨r1, e, h⟩ := h; cases e
  replace h := popN_inv h; obtain ⟨rfl, h⟩ := h
  cases h
  rfl
theorem cadastreref19_quoted_eq (k : Nat) (s0 : ByteArray) (at1 : Int) : bodyK UX (cadastreref19_quoted_cfg k) (cadastreref19_quoted_G k) Try.f96 [.pv (.str s0), .pv (.int .i64 at1)] [] cadastreref19_quoted_dec = cadastreref19_quoted k s0 at1 := by kernel_rfl
theorem cadastreref19_quoted_con (k : Nat) (s0 : ByteArray) (at1 : Int) (r : ByteArray × Int) (h : cadastreref19_quoted k s0 at1 = some r) : Con (X := UX) Try.prog 96 [.pv (.str s0), .pv (.int .i64 at1)] [] (cadastreref19_quoted_enc r) [] :=
  con_of_body xok tok Try.func96 cadastreref19_quoted_body (cadastreref19_quoted_gok k) rfl (cadastreref19_quoted_cok k) (of_decide_eq_true (by kernel_rfl)) cadastreref19_quoted_dec_enc ((cadastreref19_quoted_eq k s0 at1).trans h)
noncomputable def cadastreref19_quoted_an {ρ : Type} (k : Nat) : An UX ρ := fun args bx K =>
popA args fun v1 a2 =>
asS v1 fun s0 =>
popA a2 fun v3 a4 =>
asI .i64 v3 fun at1 =>
popN a4 <|
popN bx <|
(cadastreref19_quoted k s0 at1).bind fun r => K (cadastreref19_quoted_enc r) []
theorem cadastreref19_quoted_ok {ρ : Type} (k : Nat) : AnsOK Try.prog 96 (cadastreref19_quoted_an (ρ := ρ) k) := by
  intro args bx K r h
  unfold cadastreref19_quoted_an at h
  replace h := popA_inv h; obtain ⟨v1, a2, rfl, h⟩ := h
  replace h := asS_inv h; obtain ⟨s0, rfl, h⟩ := h
  replace h := popA_inv h; obtain ⟨v3, a4, rfl, h⟩ := h
  replace h := asI_inv h; obtain ⟨at1, rfl, h⟩ := h
  replace h := popN_inv h; obtain ⟨rfl, h⟩ := h
  replace h := popN_inv h; obtain ⟨rfl, h⟩ := h
  replace h := bind_inv h
  obtain ⟨x, hx, h⟩ := h
  exact ⟨there_of Try.func96 (by kernel_rfl) cadastreref19_quoted_body, _, _, h, cadastreref19_quoted_con k s0 at1 x hx⟩

/-! cadastre/cadastreref19.two -/
noncomputable def cadastreref19_two_code : Code := match Try.f97.body with | some c => c | none => .skip
theorem cadastreref19_two_body : Try.f97.body = some cadastreref19_two_code := by kernel_rfl
noncomputable def cadastreref19_two_G {ρ : Type} (k : Nat) : Ans UX ρ := gnil
theorem cadastreref19_two_gok {ρ : Type} (k : Nat) : GOK Try.prog (cadastreref19_two_G (ρ := ρ) k) := gok_nil
noncomputable def cadastreref19_two_cfg {ρ : Type} (k : Nat) : Cfg UX ρ where
  live i := (assoc [(0, [0]), (1, [0])] i).getD []
  boxes i := (assoc [(0, []), (1, [])] i).getD []
  tk i := (assoc [] i).getD []
  n := 21
  labelR l := (assoc [] l).getD 0
  loops := assoc []
  labels := assoc []
  joins := assoc []
  xl i e := match e with
    | .nxt => assoc [] i
    | .ret => assoc [] i
    | .exit j => (assoc [] i).bind fun l => assoc l j
    | .goto j => (assoc [] i).bind fun l => assoc l j
noncomputable def cadastreref19_two_L : List Code := selI [] (loopsOf cadastreref19_two_code)
noncomputable def cadastreref19_two_J : List Code := selI [] (joinsOf cadastreref19_two_code)
noncomputable def cadastreref19_two_S : List Code := scopesOf cadastreref19_two_code
theorem cadastreref19_two_cok {ρ : Type} (k : Nat) : COK (cadastreref19_two_cfg (ρ := ρ) k) (cadastreref19_two_G k) cadastreref19_two_code :=
  cok_of (tl := []) (tj := []) (tb := []) rfl rfl rfl (nil_all (by kernel_rfl)) (nil_all (by kernel_rfl)) (fun p hp => by cases hp)
noncomputable def cadastreref19_two_enc (r : Bool) : AV UU := .pv (.bool r)
noncomputable def cadastreref19_two_dec (v : AV UU) (_ : List (List (AV UU))) : Option Bool :=
asB v fun r0 =>
some r0
theorem cadastreref19_two_dec_enc (v : AV UU) (b : List (List (AV UU))) (r : Bool) (h : cadastreref19_two_dec v b = some r) : v = cadastreref19_two_enc r := by
  unfold cadastreref19_two_dec at h
  replace h := asB_inv h; obtain ⟨r0, rfl, h⟩ := h
  cases h
  rfl
theorem cadastreref19_two_eq (k : Nat) (s0 : ByteArray) : bodyK UX (cadastreref19_two_cfg k) (cadastreref19_two_G k) Try.f97 [.pv (.str s0)] [] cadastreref19_two_dec = cadastreref19_two k s0 := by kernel_rfl
theorem cadastreref19_two_con (k : Nat) (s0 : ByteArray) (r : Bool) (h : cadastreref19_two k s0 = some r) : Con (X := UX) Try.prog 97 [.pv (.str s0)] [] (cadastreref19_two_enc r) [] :=
  con_of_body xok tok Try.func97 cadastreref19_two_body (cadastreref19_two_gok k) rfl (cadastreref19_two_cok k) (of_decide_eq_true (by kernel_rfl)) cadastreref19_two_dec_enc ((cadastreref19_two_eq k s0).trans h)
noncomputable def cadastreref19_two_an {ρ : Type} (k : Nat) : An UX ρ := fun args bx K =>
popA args fun v1 a2 =>
asS v1 fun s0 =>
popN a2 <|
popN bx <|
(cadastreref19_two k s0).bind fun r => K (cadastreref19_two_enc r) []
theorem cadastreref19_two_ok {ρ : Type} (k : Nat) : AnsOK Try.prog 97 (cadastreref19_two_an (ρ := ρ) k) := by
  intro args bx K r h
  unfold cadastreref19_two_an at h
  replace h := popA_inv h; obtain ⟨v1, a2, rfl, h⟩ := h
  replace h := asS_inv h; obtain ⟨s0, rfl, h⟩ := h
  replace h := popN_inv h; obtain ⟨rfl, h⟩ := h
  replace h := popN_inv h; obtain ⟨rfl, h⟩ := h
  replace h := bind_inv h
  obtain ⟨x, hx, h⟩ := h
  exact ⟨there_of Try.func97 (by kernel_rfl) cadastreref19_two_body, _, _, h, cadastreref19_two_con k s0 x hx⟩

/-! cadastre/cadastreref19.one -/
noncomputable def cadastreref19_one_code : Code := match Try.f98.body with | some c => c | none => .skip
theorem cadastreref19_one_body : Try.f98.body = some cadastreref19_one_code := by kernel_rfl
noncomputable def cadastreref19_one_G {ρ : Type} (k : Nat) : Ans UX ρ := gnil
theorem cadastreref19_one_gok {ρ : Type} (k : Nat) : GOK Try.prog (cadastreref19_one_G (ρ := ρ) k) := gok_nil
noncomputable def cadastreref19_one_cfg {ρ : Type} (k : Nat) : Cfg UX ρ where
  live i := (assoc [(0, [0]), (1, [0]), (2, [3]), (3, [3]), (4, [3]), (5, [3]), (6, [3]), (7, [3]), (8, [3]), (9, [3]), (10, [3]), (11, [3]), (12, [3]), (13, [3]), (14, [3]), (15, []), (16, [])] i).getD []
  boxes i := (assoc [(0, []), (1, []), (2, []), (3, []), (4, []), (5, []), (6, []), (7, []), (8, []), (9, []), (10, []), (11, []), (12, []), (13, []), (14, []), (15, []), (16, [])] i).getD []
  tk i := (assoc [] i).getD []
  n := 18
  labelR l := (assoc [] l).getD 0
  loops := assoc []
  labels := assoc []
  joins := assoc []
  xl i e := match e with
    | .nxt => assoc [] i
    | .ret => assoc [] i
    | .exit j => (assoc [] i).bind fun l => assoc l j
    | .goto j => (assoc [] i).bind fun l => assoc l j
noncomputable def cadastreref19_one_L : List Code := selI [] (loopsOf cadastreref19_one_code)
noncomputable def cadastreref19_one_J : List Code := selI [] (joinsOf cadastreref19_one_code)
noncomputable def cadastreref19_one_S : List Code := scopesOf cadastreref19_one_code
theorem cadastreref19_one_cok {ρ : Type} (k : Nat) : COK (cadastreref19_one_cfg (ρ := ρ) k) (cadastreref19_one_G k) cadastreref19_one_code :=
  cok_of (tl := []) (tj := []) (tb := []) rfl rfl rfl (nil_all (by kernel_rfl)) (nil_all (by kernel_rfl)) (fun p hp => by cases hp)
noncomputable def cadastreref19_one_enc (r : Bool) : AV UU := .pv (.bool r)
noncomputable def cadastreref19_one_dec (v : AV UU) (_ : List (List (AV UU))) : Option Bool :=
asB v fun r0 =>
some r0
theorem cadastreref19_one_dec_enc (v : AV UU) (b : List (List (AV UU))) (r : Bool) (h : cadastreref19_one_dec v b = some r) : v = cadastreref19_one_enc r := by
  unfold cadastreref19_one_dec at h
  replace h := asB_inv h; obtain ⟨r0, rfl, h⟩ := h
  cases h
  rfl
theorem cadastreref19_one_eq (k : Nat) (c0 : Int) : bodyK UX (cadastreref19_one_cfg k) (cadastreref19_one_G k) Try.f98 [.pv (.int .u8 c0)] [] cadastreref19_one_dec = cadastreref19_one k c0 := by kernel_rfl
theorem cadastreref19_one_con (k : Nat) (c0 : Int) (r : Bool) (h : cadastreref19_one k c0 = some r) : Con (X := UX) Try.prog 98 [.pv (.int .u8 c0)] [] (cadastreref19_one_enc r) [] :=
  con_of_body xok tok Try.func98 cadastreref19_one_body (cadastreref19_one_gok k) rfl (cadastreref19_one_cok k) (of_decide_eq_true (by kernel_rfl)) cadastreref19_one_dec_enc ((cadastreref19_one_eq k c0).trans h)
noncomputable def cadastreref19_one_an {ρ : Type} (k : Nat) : An UX ρ := fun args bx K =>
popA args fun v1 a2 =>
asI .u8 v1 fun c0 =>
popN a2 <|
popN bx <|
(cadastreref19_one k c0).bind fun r => K (cadastreref19_one_enc r) []
theorem cadastreref19_one_ok {ρ : Type} (k : Nat) : AnsOK Try.prog 98 (cadastreref19_one_an (ρ := ρ) k) := by
  intro args bx K r h
  unfold cadastreref19_one_an at h
  replace h := popA_inv h; obtain ⟨v1, a2, rfl, h⟩ := h
  replace h := asI_inv h; obtain ⟨c0, rfl, h⟩ := h
  replace h := popN_inv h; obtain ⟨rfl, h⟩ := h
  replace h := popN_inv h; obtain ⟨rfl, h⟩ := h
  replace h := bind_inv h
  obtain ⟨x, hx, h⟩ := h
  exact ⟨there_of Try.func98 (by kernel_rfl) cadastreref19_one_body, _, _, h, cadastreref19_one_con k c0 x hx⟩

/-! cadastre/cadastreref19.token -/
noncomputable def cadastreref19_token_code : Code := match Try.f66.body with | some c => c | none => .skip
theorem cadastreref19_token_body : Try.f66.body = some cadastreref19_token_code := by kernel_rfl
noncomputable def cadastreref19_token_G {ρ : Type} (k : Nat) : Ans UX ρ := gk 91 (cadastreref19_blob_an k) (gk 92 (cadastreref19_Letter_an k) (gk 93 (cadastreref19_Digit_an k) (gk 94 (cadastreref19_lower_an k) (gk 95 (cadastreref4_Int_an k) (gk 96 (cadastreref19_quoted_an k) (gk 97 (cadastreref19_two_an k) (gk 98 (cadastreref19_one_an k) (gnil))))))))
theorem cadastreref19_token_gok {ρ : Type} (k : Nat) : GOK Try.prog (cadastreref19_token_G (ρ := ρ) k) := gok_cons (cadastreref19_blob_ok k) (gok_cons (cadastreref19_Letter_ok k) (gok_cons (cadastreref19_Digit_ok k) (gok_cons (cadastreref19_lower_ok k) (gok_cons (cadastreref4_Int_ok k) (gok_cons (cadastreref19_quoted_ok k) (gok_cons (cadastreref19_two_ok k) (gok_cons (cadastreref19_one_ok k) (gok_nil))))))))
noncomputable def cadastreref19_token_l4_s {ρ : Type} (k : Nat) : Run UX ρ := fun s K =>
popS 0 s.env fun v1 e2 =>
asS v1 fun s0 =>
popS 1 e2 fun v3 e4 =>
asI .i64 v3 fun at1 =>
popS 4 e4 fun v5 e6 =>
asP 4 0 v5 <|
popS 7 e6 fun v7 e8 =>
asI .i64 v7 fun end7 =>
popN e8 <|
popB 4 s.hp fun c9 e10 =>
popA c9 fun v11 c12 =>
asI .i64 v11 fun z13 =>
popA c12 fun v14 c15 =>
asS v14 fun z16 =>
popA c15 fun v17 c18 =>
asI .i64 v17 fun z19 =>
popN c18 <|
popN e10 <|
cadastreref19_token_l4 k (fun s0 at1 end7 t4 => K (.exit 1) ⟨[(0, .pv (.str s0)), (1, .pv (.int .i64 at1)), (4, .ptr 4 0), (7, .pv (.int .i64 end7))], [(4, [.pv (.int .i64 t4.f0), .pv (.str t4.f1), .pv (.int .i64 t4.f2)])]⟩) k s0 at1 end7 (⟨z13, z16, z19⟩ : S68)
noncomputable def cadastreref19_token_j3_s {ρ : Type} (k : Nat) : Run UX ρ := fun s K =>
popS 0 s.env fun v1 e2 =>
asS v1 fun s0 =>
popS 1 e2 fun v3 e4 =>
asI .i64 v3 fun at1 =>
popS 4 e4 fun v5 e6 =>
asP 4 0 v5 <|
popN e6 <|
popB 4 s.hp fun c7 e8 =>
popA c7 fun v9 c10 =>
asI .i64 v9 fun z11 =>
popA c10 fun v12 c13 =>
asS v12 fun z14 =>
popA c13 fun v15 c16 =>
asI .i64 v15 fun z17 =>
popN c16 <|
popN e8 <|
cadastreref19_token_j3 k (fun t5 t4 => K .ret ⟨[(4, .ptr 4 0), (5, .pv (.int .i64 t5))], [(4, [.pv (.int .i64 t4.f0), .pv (.str t4.f1), .pv (.int .i64 t4.f2)])]⟩) s0 at1 (⟨z11, z14, z17⟩ : S68)
noncomputable def cadastreref19_token_l14_s {ρ : Type} (k : Nat) : Run UX ρ := fun s K =>
popS 0 s.env fun v1 e2 =>
asS v1 fun s0 =>
popS 1 e2 fun v3 e4 =>
asI .i64 v3 fun at1 =>
popS 4 e4 fun v5 e6 =>
asP 4 0 v5 <|
popS 10 e6 fun v7 e8 =>
asI .i64 v7 fun end10 =>
popN e8 <|
popB 4 s.hp fun c9 e10 =>
popA c9 fun v11 c12 =>
asI .i64 v11 fun z13 =>
popA c12 fun v14 c15 =>
asS v14 fun z16 =>
popA c15 fun v17 c18 =>
asI .i64 v17 fun z19 =>
popN c18 <|
popN e10 <|
cadastreref19_token_l14 k (fun s0 at1 end10 t4 => K (.exit 3) ⟨[(0, .pv (.str s0)), (1, .pv (.int .i64 at1)), (4, .ptr 4 0), (10, .pv (.int .i64 end10))], [(4, [.pv (.int .i64 t4.f0), .pv (.str t4.f1), .pv (.int .i64 t4.f2)])]⟩) k s0 at1 end10 (⟨z13, z16, z19⟩ : S68)
noncomputable def cadastreref19_token_l19_s {ρ : Type} (k : Nat) : Run UX ρ := fun s K =>
popS 0 s.env fun v1 e2 =>
asS v1 fun s0 =>
popS 1 e2 fun v3 e4 =>
asI .i64 v3 fun at1 =>
popS 4 e4 fun v5 e6 =>
asP 4 0 v5 <|
popS 11 e6 fun v7 e8 =>
asI .i64 v7 fun end11 =>
popN e8 <|
popB 4 s.hp fun c9 e10 =>
popA c9 fun v11 c12 =>
asI .i64 v11 fun z13 =>
popA c12 fun v14 c15 =>
asS v14 fun z16 =>
popA c15 fun v17 c18 =>
asI .i64 v17 fun z19 =>
popN c18 <|
popN e10 <|
cadastreref19_token_l19 k (fun s0 at1 end11 t4 => K (.exit 5) ⟨[(0, .pv (.str s0)), (1, .pv (.int .i64 at1)), (4, .ptr 4 0), (11, .pv (.int .i64 end11))], [(4, [.pv (.int .i64 t4.f0), .pv (.str t4.f1), .pv (.int .i64 t4.f2)])]⟩) k s0 at1 end11 (⟨z13, z16, z19⟩ : S68)
noncomputable def cadastreref19_token_j29_s {ρ : Type} (k : Nat) : Run UX ρ := fun s K =>
popS 0 s.env fun v1 e2 =>
asS v1 fun s0 =>
popS 1 e2 fun v3 e4 =>
asI .i64 v3 fun at1 =>
popS 4 e4 fun v5 e6 =>
asP 4 0 v5 <|
popN e6 <|
popB 4 s.hp fun c7 e8 =>
popA c7 fun v9 c10 =>
asI .i64 v9 fun z11 =>
popA c10 fun v12 c13 =>
asS v12 fun z14 =>
popA c13 fun v15 c16 =>
asI .i64 v15 fun z17 =>
popN c16 <|
popN e8 <|
cadastreref19_token_j29 k (fun t5 t4 => K .ret ⟨[(4, .ptr 4 0), (5, .pv (.int .i64 t5))], [(4, [.pv (.int .i64 t4.f0), .pv (.str t4.f1), .pv (.int .i64 t4.f2)])]⟩) s0 at1 (⟨z11, z14, z17⟩ : S68)
noncomputable def cadastreref19_token_j33_s {ρ : Type} (k : Nat) : Run UX ρ := fun s K =>
popS 0 s.env fun v1 e2 =>
asS v1 fun s0 =>
popS 1 e2 fun v3 e4 =>
asI .i64 v3 fun at1 =>
popS 4 e4 fun v5 e6 =>
asP 4 0 v5 <|
popS 6 e6 fun v7 e8 =>
asI .u8 v7 fun c6 =>
popN e8 <|
popB 4 s.hp fun c9 e10 =>
popA c9 fun v11 c12 =>
asI .i64 v11 fun z13 =>
popA c12 fun v14 c15 =>
asS v14 fun z16 =>
popA c15 fun v17 c18 =>
asI .i64 v17 fun z19 =>
popN c18 <|
popN e10 <|
cadastreref19_token_j33 k (fun t5 t4 => K .ret ⟨[(4, .ptr 4 0), (5, .pv (.int .i64 t5))], [(4, [.pv (.int .i64 t4.f0), .pv (.str t4.f1), .pv (.int .i64 t4.f2)])]⟩) (fun t4 => K .nxt ⟨[(4, .ptr 4 0)], [(4, [.pv (.int .i64 t4.f0), .pv (.str t4.f1), .pv (.int .i64 t4.f2)])]⟩) s0 at1 c6 (⟨z13, z16, z19⟩ : S68)
noncomputable def cadastreref19_token_j12_s {ρ : Type} (k : Nat) : Run UX ρ := fun s K =>
popS 0 s.env fun v1 e2 =>
asS v1 fun s0 =>
popS 1 e2 fun v3 e4 =>
asI .i64 v3 fun at1 =>
popS 4 e4 fun v5 e6 =>
asP 4 0 v5 <|
popS 6 e6 fun v7 e8 =>
asI .u8 v7 fun c6 =>
popN e8 <|
popB 4 s.hp fun c9 e10 =>
popA c9 fun v11 c12 =>
asI .i64 v11 fun z13 =>
popA c12 fun v14 c15 =>
asS v14 fun z16 =>
popA c15 fun v17 c18 =>
asI .i64 v17 fun z19 =>
popN c18 <|
popN e10 <|
cadastreref19_token_j12 k (fun t5 t4 => K .ret ⟨[(4, .ptr 4 0), (5, .pv (.int .i64 t5))], [(4, [.pv (.int .i64 t4.f0), .pv (.str t4.f1), .pv (.int .i64 t4.f2)])]⟩) (fun t4 => K .nxt ⟨[(4, .ptr 4 0)], [(4, [.pv (.int .i64 t4.f0), .pv (.str t4.f1), .pv (.int .i64 t4.f2)])]⟩) s0 at1 c6 (⟨z13, z16, z19⟩ : S68)
noncomputable def cadastreref19_token_cfg {ρ : Type} (k : Nat) : Cfg UX ρ where
  live i := (assoc [(0, [0, 1]), (1, [0, 1, 4]), (2, [0, 1, 4, 6]), (3, [0, 1, 4]), (4, [0, 1, 4, 7]), (5, [0, 1, 4, 7]), (6, [0, 1, 4, 7]), (7, [4]), (8, [0, 1, 4, 7]), (9, [4, 7, 8, 9]), (10, [4]), (11, [4, 7, 8]), (12, [0, 1, 4, 6]), (13, [0, 1, 4]), (14, [0, 1, 4, 10]), (15, [0, 1, 4, 10]), (16, [0, 1, 4, 10]), (17, [0, 1, 4, 6]), (18, [0, 1, 4]), (19, [0, 1, 4, 11]), (20, [0, 1, 4, 11]), (21, [0, 1, 4, 11]), (22, [4, 11, 12, 13]), (23, [4]), (24, [4, 11, 12]), (25, [0, 1, 4, 6]), (26, [0, 1, 4]), (27, [4, 14, 15]), (28, [0, 1, 4, 6]), (29, [0, 1, 4]), (30, [1, 4, 16]), (31, [1, 4]), (32, [1, 4, 16]), (33, [0, 1, 4, 6]), (34, [0, 1, 4]), (35, [4])] i).getD []
  boxes i := (assoc [(0, []), (1, [4]), (2, [4]), (3, [4]), (4, [4]), (5, [4]), (6, [4]), (7, [4]), (8, [4]), (9, [4]), (10, [4]), (11, [4]), (12, [4]), (13, [4]), (14, [4]), (15, [4]), (16, [4]), (17, [4]), (18, [4]), (19, [4]), (20, [4]), (21, [4]), (22, [4]), (23, [4]), (24, [4]), (25, [4]), (26, [4]), (27, [4]), (28, [4]), (29, [4]), (30, [4]), (31, [4]), (32, [4]), (33, [4]), (34, [4]), (35, [4])] i).getD []
  tk i := (assoc [] i).getD []
  n := 184
  labelR l := (assoc [] l).getD 0
  loops := assoc [(4, cadastreref19_token_l4_s k), (14, cadastreref19_token_l14_s k), (19, cadastreref19_token_l19_s k)]
  labels := assoc []
  joins := assoc [(3, cadastreref19_token_j3_s k), (29, cadastreref19_token_j29_s k), (33, cadastreref19_token_j33_s k), (12, cadastreref19_token_j12_s k)]
  xl i e := match e with
    | .nxt => assoc [(33, ([4], [4])), (12, ([4], [4]))] i
    | .ret => assoc [(3, ([4, 5], [4])), (29, ([4, 5], [4])), (33, ([4, 5], [4])), (12, ([4, 5], [4]))] i
    | .exit j => (assoc [(4, [(1, ([0, 1, 4, 7], [4]))]), (14, [(3, ([0, 1, 4, 10], [4]))]), (19, [(5, ([0, 1, 4, 11], [4]))])] i).bind fun l => assoc l j
    | .goto j => (assoc [] i).bind fun l => assoc l j
noncomputable def cadastreref19_token_L : List Code := selI [4, 14, 19] (loopsOf cadastreref19_token_code)
noncomputable def cadastreref19_token_J : List Code := selI [3, 29, 33, 12] (joinsOf cadastreref19_token_code)
noncomputable def cadastreref19_token_S : List Code := scopesOf cadastreref19_token_code
theorem cadastreref19_token_l4_eq0 {ρ : Type} (k : Nat) (K : Ex → St UU → Option ρ) : ∀ (n : Nat) (v : ByteArray × Int × Int × S68), iterK UX (fun s => s.at (cadastreref19_token_cfg (ρ := ρ) k).live (cadastreref19_token_cfg (ρ := ρ) k).boxes (some 4)) (exec UX (cadastreref19_token_cfg k) (cadastreref19_token_G k) (cadastreref19_token_L.getD 0 .skip)) n ⟨[(0, .pv (.str v.1)), (1, .pv (.int .i64 v.2.1)), (4, .ptr 4 0), (7, .pv (.int .i64 v.2.2.1))], [(4, [.pv (.int .i64 v.2.2.2.f0), .pv (.str v.2.2.2.f1), .pv (.int .i64 v.2.2.2.f2)])]⟩ (nrmK UX (cadastreref19_token_cfg k) 4 K) = cadastreref19_token_l4 k (fun s0 at1 end7 t4 => K (.exit 1) ⟨[(0, .pv (.str s0)), (1, .pv (.int .i64 at1)), (4, .ptr 4 0), (7, .pv (.int .i64 end7))], [(4, [.pv (.int .i64 t4.f0), .pv (.str t4.f1), .pv (.int .i64 t4.f2)])]⟩) n v.1 v.2.1 v.2.2.1 v.2.2.2 :=
  iter_rec (X := UX) (fun v => ⟨[(0, .pv (.str v.1)), (1, .pv (.int .i64 v.2.1)), (4, .ptr 4 0), (7, .pv (.int .i64 v.2.2.1))], [(4, [.pv (.int .i64 v.2.2.2.f0), .pv (.str v.2.2.2.f1), .pv (.int .i64 v.2.2.2.f2)])]⟩) (fun rec v => cadastreref19_token_l4_b k (fun s0 at1 end7 t4 => K (.exit 1) ⟨[(0, .pv (.str s0)), (1, .pv (.int .i64 at1)), (4, .ptr 4 0), (7, .pv (.int .i64 end7))], [(4, [.pv (.int .i64 t4.f0), .pv (.str t4.f1), .pv (.int .i64 t4.f2)])]⟩) (fun s0 at1 end7 t4 => rec (s0, at1, end7, t4)) v.1 v.2.1 v.2.2.1 v.2.2.2) (fun n v => cadastreref19_token_l4 k (fun s0 at1 end7 t4 => K (.exit 1) ⟨[(0, .pv (.str s0)), (1, .pv (.int .i64 at1)), (4, .ptr 4 0), (7, .pv (.int .i64 end7))], [(4, [.pv (.int .i64 t4.f0), .pv (.str t4.f1), .pv (.int .i64 t4.f2)])]⟩) n v.1 v.2.1 v.2.2.1 v.2.2.2) (fun n v => by kernel_rfl) (fun _ => rfl) (fun _ _ => rfl)
theorem cadastreref19_token_l4_ok0 {ρ : Type} (k : Nat) : IterOK UX (cadastreref19_token_cfg (ρ := ρ) k) (cadastreref19_token_G k) (cadastreref19_token_L.getD 0 .skip) 4 (cadastreref19_token_l4_s k) := by
  intro s K r h
  obtain ⟨env, hp⟩ := s
  unfold cadastreref19_token_l4_s at h
  replace h := popS_inv h; obtain ⟨v1, e2, rfl, h⟩ := h
  replace h := asS_inv h; obtain ⟨s0, rfl, h⟩ := h
  replace h := popS_inv h; obtain ⟨v3, e4, rfl, h⟩ := h
  replace h := asI_inv h; obtain ⟨at1, rfl, h⟩ := h
  replace h := popS_inv h; obtain ⟨v5, e6, rfl, h⟩ := h
  replace h := asP_inv h; obtain ⟨rfl, h⟩ := h
  replace h := popS_inv h; obtain ⟨v7, e8, rfl, h⟩ := h
  replace h := asI_inv h; obtain ⟨end7, rfl, h⟩ := h
  replace h := popN_inv h; obtain ⟨rfl, h⟩ := h
  replace h := popB_inv h; obtain ⟨c9, e10, rfl, h⟩ := h
  replace h := popA_inv h; obtain ⟨v11, c12, rfl, h⟩ := h
  replace h := asI_inv h; obtain ⟨z13, rfl, h⟩ := h
  replace h := popA_inv h; obtain ⟨v14, c15, rfl, h⟩ := h
  replace h := asS_inv h; obtain ⟨z16, rfl, h⟩ := h
  replace h := popA_inv h; obtain ⟨v17, c18, rfl, h⟩ := h
  replace h := asI_inv h; obtain ⟨z19, rfl, h⟩ := h
  replace h := popN_inv h; obtain ⟨rfl, h⟩ := h
  replace h := popN_inv h; obtain ⟨rfl, h⟩ := h
  exact ⟨k, (cadastreref19_token_l4_eq0 k K k (s0, at1, end7, (⟨z13, z16, z19⟩ : S68))).trans h⟩
theorem cadastreref19_token_l14_eq1 {ρ : Type} (k : Nat) (K : Ex → St UU → Option ρ) : ∀ (n : Nat) (v : ByteArray × Int × Int × S68), iterK UX (fun s => s.at (cadastreref19_token_cfg (ρ := ρ) k).live (cadastreref19_token_cfg (ρ := ρ) k).boxes (some 14)) (exec UX (cadastreref19_token_cfg k) (cadastreref19_token_G k) (cadastreref19_token_L.getD 1 .skip)) n ⟨[(0, .pv (.str v.1)), (1, .pv (.int .i64 v.2.1)), (4, .ptr 4 0), (10, .pv (.int .i64 v.2.2.1))], [(4, [.pv (.int .i64 v.2.2.2.f0), .pv (.str v.2.2.2.f1), .pv (.int .i64 v.2.2.2.f2)])]⟩ (nrmK UX (cadastreref19_token_cfg k) 14 K) = cadastreref19_token_l14 k (fun s0 at1 end10 t4 => K (.exit 3) ⟨[(0, .pv (.str s0)), (1, .pv (.int .i64 at1)), (4, .ptr 4 0), (10, .pv (.int .i64 end10))], [(4, [.pv (.int .i64 t4.f0), .pv (.str t4.f1), .pv (.int .i64 t4.f2)])]⟩) n v.1 v.2.1 v.2.2.1 v.2.2.2 :=
  iter_rec (X := UX) (fun v => ⟨[(0, .pv (.str v.1)), (1, .pv (.int .i64 v.2.1)), (4, .ptr 4 0), (10, .pv (.int .i64 v.2.2.1))], [(4, [.pv (.int .i64 v.2.2.2.f0), .pv (.str v.2.2.2.f1), .pv (.int .i64 v.2.2.2.f2)])]⟩) (fun rec v => cadastreref19_token_l14_b k (fun s0 at1 end10 t4 => K (.exit 3) ⟨[(0, .pv (.str s0)), (1, .pv (.int .i64 at1)), (4, .ptr 4 0), (10, .pv (.int .i64 end10))], [(4, [.pv (.int .i64 t4.f0), .pv (.str t4.f1), .pv (.int .i64 t4.f2)])]⟩) (fun s0 at1 end10 t4 => rec (s0, at1, end10, t4)) v.1 v.2.1 v.2.2.1 v.2.2.2) (fun n v => cadastreref19_token_l14 k (fun s0 at1 end10 t4 => K (.exit 3) ⟨[(0, .pv (.str s0)), (1, .pv (.int .i64 at1)), (4, .ptr 4 0), (10, .pv (.int .i64 end10))], [(4, [.pv (.int .i64 t4.f0), .pv (.str t4.f1), .pv (.int .i64 t4.f2)])]⟩) n v.1 v.2.1 v.2.2.1 v.2.2.2) (fun n v => by kernel_rfl) (fun _ => rfl) (fun _ _ => rfl)
theorem cadastreref19_token_l14_ok1 {ρ : Type} (k : Nat) : IterOK UX (cadastreref19_token_cfg (ρ := ρ) k) (cadastreref19_token_G k) (cadastreref19_token_L.getD 1 .skip) 14 (cadastreref19_token_l14_s k) := by
  intro s K r h
  obtain ⟨env, hp⟩ := s
  unfold cadastreref19_token_l14_s at h
  replace h := popS_inv h; obtain ⟨v1, e2, rfl, h⟩ := h
  replace h := asS_inv h; obtain ⟨s0, rfl, h⟩ := h
  replace h := popS_inv h; obtain ⟨v3, e4, rfl, h⟩ := h
  replace h := asI_inv h; obtain ⟨at1, rfl, h⟩ := h
  replace h := popS_inv h; obtain ⟨v5, e6, rfl, h⟩ := h
  replace h := asP_inv h; obtain ⟨rfl, h⟩ := h
  replace h := popS_inv h; obtain ⟨v7, e8, rfl, h⟩ := h
  replace h := asI_inv h; obtain ⟨end10, rfl, h⟩ := h
  replace h := popN_inv h; obtain ⟨rfl, h⟩ := h
  replace h := popB_inv h; obtain ⟨c9, e10, rfl, h⟩ := h
  replace h := popA_inv h; obtain ⟨v11, c12, rfl, h⟩ := h
  replace h := asI_inv h; obtain ⟨z13, rfl, h⟩ := h
  replace h := popA_inv h; obtain ⟨v14, c15, rfl, h⟩ := h
  replace h := asS_inv h; obtain ⟨z16, rfl, h⟩ := h
  replace h := popA_inv h; obtain ⟨v17, c18, rfl, h⟩ := h
  replace h := asI_inv h; obtain ⟨z19, rfl, h⟩ := h
  replace h := popN_inv h; obtain ⟨rfl, h⟩ := h
  replace h := popN_inv h; obtain ⟨rfl, h⟩ := h
  exact ⟨k, (cadastreref19_token_l14_eq1 k K k (s0, at1, end10, (⟨z13, z16, z19⟩ : S68))).trans h⟩
theorem cadastreref19_token_l19_eq2 {ρ : Type} (k : Nat) (K : Ex → St UU → Option ρ) : ∀ (n : Nat) (v : ByteArray × Int × Int × S68), iterK UX (fun s => s.at (cadastreref19_token_cfg (ρ := ρ) k).live (cadastreref19_token_cfg (ρ := ρ) k).boxes (some 19)) (exec UX (cadastreref19_token_cfg k) (cadastreref19_token_G k) (cadastreref19_token_L.getD 2 .skip)) n ⟨[(0, .pv (.str v.1)), (1, .pv (.int .i64 v.2.1)), (4, .ptr 4 0), (11, .pv (.int .i64 v.2.2.1))], [(4, [.pv (.int .i64 v.2.2.2.f0), .pv (.str v.2.2.2.f1), .pv (.int .i64 v.2.2.2.f2)])]⟩ (nrmK UX (cadastreref19_token_cfg k) 19 K) = cadastreref19_token_l19 k (fun s0 at1 end11 t4 => K (.exit 5) ⟨[(0, .pv (.str s0)), (1, .pv (.int .i64 at1)), (4, .ptr 4 0), (11, .pv (.int .i64 end11))], [(4, [.pv (.int .i64 t4.f0), .pv (.str t4.f1), .pv (.int .i64 t4.f2)])]⟩) n v.1 v.2.1 v.2.2.1 v.2.2.2 :=
  iter_rec (X := UX) (fun v => ⟨[(0, .pv (.str v.1)), (1, .pv (.int .i64 v.2.1)), (4, .ptr 4 0), (11, .pv (.int .i64 v.2.2.1))], [(4, [.pv (.int .i64 v.2.2.2.f0), .pv (.str v.2.2.2.f1), .pv (.int .i64 v.2.2.2.f2)])]⟩) (fun rec v => cadastreref19_token_l19_b k (fun s0 at1 end11 t4 => K (.exit 5) ⟨[(0, .pv (.str s0)), (1, .pv (.int .i64 at1)), (4, .ptr 4 0), (11, .pv (.int .i64 end11))], [(4, [.pv (.int .i64 t4.f0), .pv (.str t4.f1), .pv (.int .i64 t4.f2)])]⟩) (fun s0 at1 end11 t4 => rec (s0, at1, end11, t4)) v.1 v.2.1 v.2.2.1 v.2.2.2) (fun n v => cadastreref19_token_l19 k (fun s0 at1 end11 t4 => K (.exit 5) ⟨[(0, .pv (.str s0)), (1, .pv (.int .i64 at1)), (4, .ptr 4 0), (11, .pv (.int .i64 end11))], [(4, [.pv (.int .i64 t4.f0), .pv (.str t4.f1), .pv (.int .i64 t4.f2)])]⟩) n v.1 v.2.1 v.2.2.1 v.2.2.2) (fun n v => by kernel_rfl) (fun _ => rfl) (fun _ _ => rfl)
theorem cadastreref19_token_l19_ok2 {ρ : Type} (k : Nat) : IterOK UX (cadastreref19_token_cfg (ρ := ρ) k) (cadastreref19_token_G k) (cadastreref19_token_L.getD 2 .skip) 19 (cadastreref19_token_l19_s k) := by
  intro s K r h
  obtain ⟨env, hp⟩ := s
  unfold cadastreref19_token_l19_s at h
  replace h := popS_inv h; obtain ⟨v1, e2, rfl, h⟩ := h
  replace h := asS_inv h; obtain ⟨s0, rfl, h⟩ := h
  replace h := popS_inv h; obtain ⟨v3, e4, rfl, h⟩ := h
  replace h := asI_inv h; obtain ⟨at1, rfl, h⟩ := h
  replace h := popS_inv h; obtain ⟨v5, e6, rfl, h⟩ := h
  replace h := asP_inv h; obtain ⟨rfl, h⟩ := h
  replace h := popS_inv h; obtain ⟨v7, e8, rfl, h⟩ := h
  replace h := asI_inv h; obtain ⟨end11, rfl, h⟩ := h
  replace h := popN_inv h; obtain ⟨rfl, h⟩ := h
  replace h := popB_inv h; obtain ⟨c9, e10, rfl, h⟩ := h
  replace h := popA_inv h; obtain ⟨v11, c12, rfl, h⟩ := h
  replace h := asI_inv h; obtain ⟨z13, rfl, h⟩ := h
  replace h := popA_inv h; obtain ⟨v14, c15, rfl, h⟩ := h
  replace h := asS_inv h; obtain ⟨z16, rfl, h⟩ := h
  replace h := popA_inv h; obtain ⟨v17, c18, rfl, h⟩ := h
  replace h := asI_inv h; obtain ⟨z19, rfl, h⟩ := h
  replace h := popN_inv h; obtain ⟨rfl, h⟩ := h
  replace h := popN_inv h; obtain ⟨rfl, h⟩ := h
  exact ⟨k, (cadastreref19_token_l19_eq2 k K k (s0, at1, end11, (⟨z13, z16, z19⟩ : S68))).trans h⟩
theorem cadastreref19_token_j3_eq0 {ρ : Type} (k : Nat) (K : Ex → St UU → Option ρ) (s0 : ByteArray) (at1 : Int) (t4 : S68) : exec UX (cadastreref19_token_cfg k) (cadastreref19_token_G k) (cadastreref19_token_J.getD 0 .skip) ⟨[(0, .pv (.str s0)), (1, .pv (.int .i64 at1)), (4, .ptr 4 0)], [(4, [.pv (.int .i64 t4.f0), .pv (.str t4.f1), .pv (.int .i64 t4.f2)])]⟩ (nrmK UX (cadastreref19_token_cfg k) 3 K) = cadastreref19_token_j3 k (fun t5 t4 => K .ret ⟨[(4, .ptr 4 0), (5, .pv (.int .i64 t5))], [(4, [.pv (.int .i64 t4.f0), .pv (.str t4.f1), .pv (.int .i64 t4.f2)])]⟩) s0 at1 t4 := by kernel_rfl
theorem cadastreref19_token_j3_ok0 {ρ : Type} (k : Nat) : JoinOK UX (cadastreref19_token_cfg (ρ := ρ) k) (cadastreref19_token_G k) (cadastreref19_token_J.getD 0 .skip) 3 (cadastreref19_token_j3_s k) := by
  intro s K r h
  obtain ⟨env, hp⟩ := s
  unfold cadastreref19_token_j3_s at h
  replace h := popS_inv h; obtain ⟨v1, e2, rfl, h⟩ := h
  replace h := asS_inv h; obtain ⟨s0, rfl, h⟩ := h
  replace h := popS_inv h; obtain ⟨v3, e4, rfl, h⟩ := h
  replace h := asI_inv h; obtain ⟨at1, rfl, h⟩ := h
  replace h := popS_inv h; obtain ⟨v5, e6, rfl, h⟩ := h
  replace h := asP_inv h; obtain ⟨rfl, h⟩ := h
  replace h := popN_inv h; obtain ⟨rfl, h⟩ := h
  replace h := popB_inv h; obtain ⟨c7, e8, rfl, h⟩ := h
  replace h := popA_inv h; obtain ⟨v9, c10, rfl, h⟩ := h
  replace h := asI_inv h; obtain ⟨z11, rfl, h⟩ := h
  replace h := popA_inv h; obtain ⟨v12, c13, rfl, h⟩ := h
  replace h := asS_inv h; obtain ⟨z14, rfl, h⟩ := h
  replace h := popA_inv h; obtain ⟨v15, c16, rfl, h⟩ := h
  replace h := asI_inv h; obtain ⟨z17, rfl, h⟩ := h
  replace h := popN_inv h; obtain ⟨rfl, h⟩ := h
  replace h := popN_inv h; obtain ⟨rfl, h⟩ := h
  exact (cadastreref19_token_j3_eq0 k K s0 at1 (⟨z11, z14, z17⟩ : S68)).trans h
theorem cadastreref19_token_j12_eq1 {ρ : Type} (k : Nat) (K : Ex → St UU → Option ρ) (s0 : ByteArray) (at1 : Int) (c6 : Int) (t4 : S68) : exec UX (cadastreref19_token_cfg k) (cadastreref19_token_G k) (cadastreref19_token_J.getD 1 .skip) ⟨[(0, .pv (.str s0)), (1, .pv (.int .i64 at1)), (4, .ptr 4 0), (6, .pv (.int .u8 c6))], [(4, [.pv (.int .i64 t4.f0), .pv (.str t4.f1), .pv (.int .i64 t4.f2)])]⟩ (nrmK UX (cadastreref19_token_cfg k) 12 K) = cadastreref19_token_j12 k (fun t5 t4 => K .ret ⟨[(4, .ptr 4 0), (5, .pv (.int .i64 t5))], [(4, [.pv (.int .i64 t4.f0), .pv (.str t4.f1), .pv (.int .i64 t4.f2)])]⟩) (fun t4 => K .nxt ⟨[(4, .ptr 4 0)], [(4, [.pv (.int .i64 t4.f0), .pv (.str t4.f1), .pv (.int .i64 t4.f2)])]⟩) s0 at1 c6 t4 := by kernel_rfl
theorem cadastreref19_token_j12_ok1 {ρ : Type} (k : Nat) : JoinOK UX (cadastreref19_token_cfg (ρ := ρ) k) (cadastreref19_token_G k) (cadastreref19_token_J.getD 1 .skip) 12 (cadastreref19_token_j12_s k) := by
  intro s K r h
  obtain ⟨env, hp⟩ := s
  unfold cadastreref19_token_j12_s at h
  replace h := popS_inv h; obtain ⟨v1, e2, rfl, h⟩ := h
  replace h := asS_inv h; obtain ⟨s0, rfl, h⟩ := h
  replace h := popS_inv h; obtain ⟨v3, e4, rfl, h⟩ := h
  replace h := asI_inv h; obtain ⟨at1, rfl, h⟩ := h
  replace h := popS_inv h; obtain ⟨v5, e6, rfl, h⟩ := h
  replace h := asP_inv h; obtain ⟨rfl, h⟩ := h
  replace h := popS_inv h; obtain ⟨v7, e8, rfl, h⟩ := h
  replace h := asI_inv h; obtain ⟨c6, rfl, h⟩ := h
  replace h := popN_inv h; obtain ⟨rfl, h⟩ := h
  replace h := popB_inv h; obtain ⟨c9, e10, rfl, h⟩ := h
  replace h := popA_inv h; obtain ⟨v11, c12, rfl, h⟩ := h
  replace h := asI_inv h; obtain ⟨z13, rfl, h⟩ := h
  replace h := popA_inv h; obtain ⟨v14, c15, rfl, h⟩ := h
  replace h := asS_inv h; obtain ⟨z16, rfl, h⟩ := h
  replace h := popA_inv h; obtain ⟨v17, c18, rfl, h⟩ := h
  replace h := asI_inv h; obtain ⟨z19, rfl, h⟩ := h
  replace h := popN_inv h; obtain ⟨rfl, h⟩ := h
  replace h := popN_inv h; obtain ⟨rfl, h⟩ := h
  exact (cadastreref19_token_j12_eq1 k K s0 at1 c6 (⟨z13, z16, z19⟩ : S68)).trans h
theorem cadastreref19_token_j29_eq2 {ρ : Type} (k : Nat) (K : Ex → St UU → Option ρ) (s0 : ByteArray) (at1 : Int) (t4 : S68) : exec UX (cadastreref19_token_cfg k) (cadastreref19_token_G k) (cadastreref19_token_J.getD 2 .skip) ⟨[(0, .pv (.str s0)), (1, .pv (.int .i64 at1)), (4, .ptr 4 0)], [(4, [.pv (.int .i64 t4.f0), .pv (.str t4.f1), .pv (.int .i64 t4.f2)])]⟩ (nrmK UX (cadastreref19_token_cfg k) 29 K) = cadastreref19_token_j29 k (fun t5 t4 => K .ret ⟨[(4, .ptr 4 0), (5, .pv (.int .i64 t5))], [(4, [.pv (.int .i64 t4.f0), .pv (.str t4.f1), .pv (.int .i64 t4.f2)])]⟩) s0 at1 t4 := by kernel_rfl
theorem cadastreref19_token_j29_ok2 {ρ : Type} (k : Nat) : JoinOK UX (cadastreref19_token_cfg (ρ := ρ) k) (cadastreref19_token_G k) (cadastreref19_token_J.getD 2 .skip) 29 (cadastreref19_token_j29_s k) := by
  intro s K r h
  obtain ⟨env, hp⟩ := s
  unfold cadastreref19_token_j29_s at h
  replace h := popS_inv h; obtain ⟨v1, e2, rfl, h⟩ := h
  replace h := asS_inv h; obtain ⟨s0, rfl, h⟩ := h
  replace h := popS_inv h; obtain ⟨v3, e4, rfl, h⟩ := h
  replace h := asI_inv h; obtain ⟨at1, rfl, h⟩ := h
  replace h := popS_inv h; obtain ⟨v5, e6, rfl, h⟩ := h
  replace h := asP_inv h; obtain ⟨rfl, h⟩ := h
  replace h := popN_inv h; obtain ⟨rfl, h⟩ := h
  replace h := popB_inv h; obtain ⟨c7, e8, rfl, h⟩ := h
  replace h := popA_inv h; obtain ⟨v9, c10, rfl, h⟩ := h
  replace h := asI_inv h; obtain ⟨z11, rfl, h⟩ := h
  replace h := popA_inv h; obtain ⟨v12, c13, rfl, h⟩ := h
  replace h := asS_inv h; obtain ⟨z14, rfl, h⟩ := h
  replace h := popA_inv h; obtain ⟨v15, c16, rfl, h⟩ := h
  replace h := asI_inv h; obtain ⟨z17, rfl, h⟩ := h
  replace h := popN_inv h; obtain ⟨rfl, h⟩ := h
  replace h := popN_inv h; obtain ⟨rfl, h⟩ := h
  exact (cadastreref19_token_j29_eq2 k K s0 at1 (⟨z11, z14, z17⟩ : S68)).trans h
theorem cadastreref19_token_j33_eq3 {ρ : Type} (k : Nat) (K : Ex → St UU → Option ρ) (s0 : ByteArray) (at1 : Int) (c6 : Int) (t4 : S68) : exec UX (cadastreref19_token_cfg k) (cadastreref19_token_G k) (cadastreref19_token_J.getD 3 .skip) ⟨[(0, .pv (.str s0)), (1, .pv (.int .i64 at1)), (4, .ptr 4 0), (6, .pv (.int .u8 c6))], [(4, [.pv (.int .i64 t4.f0), .pv (.str t4.f1), .pv (.int .i64 t4.f2)])]⟩ (nrmK UX (cadastreref19_token_cfg k) 33 K) = cadastreref19_token_j33 k (fun t5 t4 => K .ret ⟨[(4, .ptr 4 0), (5, .pv (.int .i64 t5))], [(4, [.pv (.int .i64 t4.f0), .pv (.str t4.f1), .pv (.int .i64 t4.f2)])]⟩) (fun t4 => K .nxt ⟨[(4, .ptr 4 0)], [(4, [.pv (.int .i64 t4.f0), .pv (.str t4.f1), .pv (.int .i64 t4.f2)])]⟩) s0 at1 c6 t4 := by kernel_rfl
theorem cadastreref19_token_j33_ok3 {ρ : Type} (k : Nat) : JoinOK UX (cadastreref19_token_cfg (ρ := ρ) k) (cadastreref19_token_G k) (cadastreref19_token_J.getD 3 .skip) 33 (cadastreref19_token_j33_s k) := by
  intro s K r h
  obtain ⟨env, hp⟩ := s
  unfold cadastreref19_token_j33_s at h
  replace h := popS_inv h; obtain ⟨v1, e2, rfl, h⟩ := h
  replace h := asS_inv h; obtain ⟨s0, rfl, h⟩ := h
  replace h := popS_inv h; obtain ⟨v3, e4, rfl, h⟩ := h
  replace h := asI_inv h; obtain ⟨at1, rfl, h⟩ := h
  replace h := popS_inv h; obtain ⟨v5, e6, rfl, h⟩ := h
  replace h := asP_inv h; obtain ⟨rfl, h⟩ := h
  replace h := popS_inv h; obtain ⟨v7, e8, rfl, h⟩ := h
  replace h := asI_inv h; obtain ⟨c6, rfl, h⟩ := h
  replace h := popN_inv h; obtain ⟨rfl, h⟩ := h
  replace h := popB_inv h; obtain ⟨c9, e10, rfl, h⟩ := h
  replace h := popA_inv h; obtain ⟨v11, c12, rfl, h⟩ := h
  replace h := asI_inv h; obtain ⟨z13, rfl, h⟩ := h
  replace h := popA_inv h; obtain ⟨v14, c15, rfl, h⟩ := h
  replace h := asS_inv h; obtain ⟨z16, rfl, h⟩ := h
  replace h := popA_inv h; obtain ⟨v17, c18, rfl, h⟩ := h
  replace h := asI_inv h; obtain ⟨z19, rfl, h⟩ := h
  replace h := popN_inv h; obtain ⟨rfl, h⟩ := h
  replace h := popN_inv h; obtain ⟨rfl, h⟩ := h
  exact (cadastreref19_token_j33_eq3 k K s0 at1 c6 (⟨z13, z16, z19⟩ : S68)).trans h
theorem cadastreref19_token_cok {ρ : Type} (k : Nat) : COK (cadastreref19_token_cfg (ρ := ρ) k) (cadastreref19_token_G k) cadastreref19_token_code :=
  cok_of (tl := [(4, cadastreref19_token_l4_s k), (14, cadastreref19_token_l14_s k), (19, cadastreref19_token_l19_s k)]) (tj := [(3, cadastreref19_token_j3_s k), (29, cadastreref19_token_j29_s k), (33, cadastreref19_token_j33_s k), (12, cadastreref19_token_j12_s k)]) (tb := []) rfl rfl rfl (all_nth 3 (by kernel_rfl) ⟨iter_case (by kernel_rfl) rfl (cadastreref19_token_l19_ok2 k), iter_case (by kernel_rfl) rfl (cadastreref19_token_l14_ok1 k), iter_case (by kernel_rfl) rfl (cadastreref19_token_l4_ok0 k), trivial⟩) (all_nth 4 (by kernel_rfl) ⟨join_case (by kernel_rfl) rfl (cadastreref19_token_j33_ok3 k), join_case (by kernel_rfl) rfl (cadastreref19_token_j29_ok2 k), join_case (by kernel_rfl) rfl (cadastreref19_token_j12_ok1 k), join_case (by kernel_rfl) rfl (cadastreref19_token_j3_ok0 k), trivial⟩) (fun p hp => by cases hp)
noncomputable def cadastreref19_token_enc (r : S68 × Int) : AV UU := .pv (.tup [.typ (.s68 r.1), .int .i64 r.2])
noncomputable def cadastreref19_token_dec (v : AV UU) (_ : List (List (AV UU))) : Option (S68 × Int) :=
asT v fun q1 =>
popA q1 fun p2 q3 =>
as_s68 (.pv p2) fun r0 =>
popA q3 fun p4 q5 =>
asI .i64 (.pv p4) fun r1 =>
popN q5 <|
some (r0, r1)
theorem cadastreref19_token_dec_enc (v : AV UU) (b : List (List (AV UU))) (r : S68 × Int) (h : cadastreref19_token_dec v b = some r) : v = cadastreref19_token_enc r := by
  unfold cadastreref19_token_dec at h
  replace h := asT_inv h; obtain ⟨q1, rfl, h⟩ := h
  replace h := popA_inv h; obtain ⟨p2, q3, rfl, h⟩ := h
  replace h := as_s68_inv h; obtain ⟨r0, e, h⟩ := h; cases e
  replace h := popA_inv h; obtain ⟨p4, q5, rfl, h⟩ := h
  replace h := asI_inv h; obtain ⟨r1, e, h⟩ := h; cases e
  replace h := popN_inv h; obtain ⟨rfl, h⟩ := h
  cases h
  rfl
theorem cadastreref19_token_eq (k : Nat) (s0 : ByteArray) (at1 : Int) : bodyK UX (cadastreref19_token_cfg k) (cadastreref19_token_G k) Try.f66 [.pv (.str s0), .pv (.int .i64 at1)] [] cadastreref19_token_dec = cadastreref19_token k s0 at1 := by kernel_rfl
theorem cadastreref19_token_con (k : Nat) (s0 : ByteArray) (at1 : Int) (r : S68 × Int) (h : cadastreref19_token k s0 at1 = some r) : Con (X := UX) Try.prog 66 [.pv (.str s0), .pv (.int .i64 at1)] [] (cadastreref19_token_enc r) [] :=
  con_of_body xok tok Try.func66 cadastreref19_token_body (cadastreref19_token_gok k) rfl (cadastreref19_token_cok k) (of_decide_eq_true (by kernel_rfl)) cadastreref19_token_dec_enc ((cadastreref19_token_eq k s0 at1).trans h)
noncomputable def cadastreref19_token_an {ρ : Type} (k : Nat) : An UX ρ := fun args bx K =>
popA args fun v1 a2 =>
asS v1 fun s0 =>
popA a2 fun v3 a4 =>
asI .i64 v3 fun at1 =>
popN a4 <|
popN bx <|
(cadastreref19_token k s0 at1).bind fun r => K (cadastreref19_token_enc r) []
theorem cadastreref19_token_ok {ρ : Type} (k : Nat) : AnsOK Try.prog 66 (cadastreref19_token_an (ρ := ρ) k) := by
  intro args bx K r h
  unfold cadastreref19_token_an at h
  replace h := popA_inv h; obtain ⟨v1, a2, rfl, h⟩ := h
  replace h := asS_inv h; obtain ⟨s0, rfl, h⟩ := h
  replace h := popA_inv h; obtain ⟨v3, a4, rfl, h⟩ := h
  replace h := asI_inv h; obtain ⟨at1, rfl, h⟩ := h
  replace h := popN_inv h; obtain ⟨rfl, h⟩ := h
  replace h := popN_inv h; obtain ⟨rfl, h⟩ := h
  replace h := bind_inv h
  obtain ⟨x, hx, h⟩ := h
  exact ⟨there_of Try.func66 (by kernel_rfl) cadastreref19_token_body, _, _, h, cadastreref19_token_con k s0 at1 x hx⟩
end Go.Proofs.Ytekjibpkkgldgaa.X
