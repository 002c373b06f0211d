/-
  What the program's functions answer: the printed functions' answers.
-/
import Derived.Test.YtdfmfpbdggefpaaDoorDU
import Derived.Test.YtdfmfpbdggefpaaDoorAxTab
import Derived.Test.YtdfmfpbdggefpaaDoorLay
namespace Go.Proofs.YtdfmfpbdggefpaaDoor.D
open Go Go.AX
/-! cadastre/cast.Int -/
noncomputable def cast_Int_code : Code := match Tryd.f8.body with | some c => c | none => .skip
theorem cast_Int_body : Tryd.f8.body = some cast_Int_code := by kernel_rfl
noncomputable def cast_Int_G {ρ : Type} (k : Nat) : Ans UX ρ := gnil
theorem cast_Int_gok {ρ : Type} (k : Nat) : GOK Tryd.prog (cast_Int_G (ρ := ρ) k) := gok_nil
noncomputable def cast_Int_j15_s {ρ : Type} (k : Nat) : Run UX ρ := fun s K =>
popS 0 s.env fun v1 e2 =>
asS v1 fun s0 =>
popS 4 e2 fun v3 e4 =>
asB v3 fun neg4 =>
popS 5 e4 fun v5 e6 =>
asI .i64 v5 fun n5 =>
popS 6 e6 fun v7 e8 =>
asB v7 fun over6 =>
popS 7 e8 fun v9 e10 =>
asI .i64 v9 fun i7 =>
popN e10 <|
popN s.hp <|
cast_Int_j15 k (fun s0 neg4 n5 over6 i7 => K (.goto 1) ⟨[(0, .pv (.str s0)), (4, .pv (.bool neg4)), (5, .pv (.int .i64 n5)), (6, .pv (.bool over6)), (7, .pv (.int .i64 i7))], []⟩) s0 neg4 n5 over6 i7
noncomputable def cast_Int_j11_s {ρ : Type} (k : Nat) : Run UX ρ := fun s K =>
popS 0 s.env fun v1 e2 =>
asS v1 fun s0 =>
popS 4 e2 fun v3 e4 =>
asB v3 fun neg4 =>
popS 5 e4 fun v5 e6 =>
asI .i64 v5 fun n5 =>
popS 6 e6 fun v7 e8 =>
asB v7 fun over6 =>
popS 7 e8 fun v9 e10 =>
asI .i64 v9 fun i7 =>
popN e10 <|
popN s.hp <|
cast_Int_j11 k (fun s0 neg4 n5 over6 i7 => K (.goto 1) ⟨[(0, .pv (.str s0)), (4, .pv (.bool neg4)), (5, .pv (.int .i64 n5)), (6, .pv (.bool over6)), (7, .pv (.int .i64 i7))], []⟩) s0 neg4 n5 over6 i7
noncomputable def cast_Int_j8_s {ρ : Type} (k : Nat) : Run UX ρ := fun s K =>
popS 0 s.env fun v1 e2 =>
asS v1 fun s0 =>
popS 4 e2 fun v3 e4 =>
asB v3 fun neg4 =>
popS 5 e4 fun v5 e6 =>
asI .i64 v5 fun n5 =>
popS 6 e6 fun v7 e8 =>
asB v7 fun over6 =>
popS 7 e8 fun v9 e10 =>
asI .i64 v9 fun i7 =>
popN e10 <|
popN s.hp <|
cast_Int_j8 k (fun neg4 n5 over6 => K (.goto 0) ⟨[(4, .pv (.bool neg4)), (5, .pv (.int .i64 n5)), (6, .pv (.bool over6))], []⟩) (fun t2 t3 => K .ret ⟨[(2, .pv (.int .i64 t2)), (3, .pv (.int .i64 t3))], []⟩) (fun s0 neg4 n5 over6 i7 => K (.goto 1) ⟨[(0, .pv (.str s0)), (4, .pv (.bool neg4)), (5, .pv (.int .i64 n5)), (6, .pv (.bool over6)), (7, .pv (.int .i64 i7))], []⟩) s0 neg4 n5 over6 i7
noncomputable def cast_Int_j4_s {ρ : Type} (k : Nat) : Run UX ρ := fun s K =>
popS 0 s.env fun v1 e2 =>
asS v1 fun s0 =>
popS 4 e2 fun v3 e4 =>
asB v3 fun neg4 =>
popN e4 <|
popN s.hp <|
cast_Int_j4 k (fun t2 t3 => K .ret ⟨[(2, .pv (.int .i64 t2)), (3, .pv (.int .i64 t3))], []⟩) (fun neg4 n5 over6 => K (.goto 0) ⟨[(4, .pv (.bool neg4)), (5, .pv (.int .i64 n5)), (6, .pv (.bool over6))], []⟩) (fun s0 neg4 n5 over6 i7 => K (.goto 1) ⟨[(0, .pv (.str s0)), (4, .pv (.bool neg4)), (5, .pv (.int .i64 n5)), (6, .pv (.bool over6)), (7, .pv (.int .i64 i7))], []⟩) s0 neg4
noncomputable def cast_Int_j2_s {ρ : Type} (k : Nat) : Run UX ρ := fun s K =>
popS 0 s.env fun v1 e2 =>
asS v1 fun s0 =>
popS 4 e2 fun v3 e4 =>
asB v3 fun neg4 =>
popN e4 <|
popN s.hp <|
cast_Int_j2 k (fun t2 t3 => K .ret ⟨[(2, .pv (.int .i64 t2)), (3, .pv (.int .i64 t3))], []⟩) (fun neg4 n5 over6 => K (.goto 0) ⟨[(4, .pv (.bool neg4)), (5, .pv (.int .i64 n5)), (6, .pv (.bool over6))], []⟩) (fun s0 neg4 n5 over6 i7 => K (.goto 1) ⟨[(0, .pv (.str s0)), (4, .pv (.bool neg4)), (5, .pv (.int .i64 n5)), (6, .pv (.bool over6)), (7, .pv (.int .i64 i7))], []⟩) s0 neg4
noncomputable def cast_Int_g1_s {ρ : Type} (k : Nat) : Run UX ρ := fun s K =>
popS 0 s.env fun v1 e2 =>
asS v1 fun s0 =>
popS 4 e2 fun v3 e4 =>
asB v3 fun neg4 =>
popS 5 e4 fun v5 e6 =>
asI .i64 v5 fun n5 =>
popS 6 e6 fun v7 e8 =>
asB v7 fun over6 =>
popS 7 e8 fun v9 e10 =>
asI .i64 v9 fun i7 =>
popN e10 <|
popN s.hp <|
cast_Int_g1 k (fun t2 t3 => K .ret ⟨[(2, .pv (.int .i64 t2)), (3, .pv (.int .i64 t3))], []⟩) k s0 neg4 n5 over6 i7
noncomputable def cast_Int_cfg {ρ : Type} (k : Nat) : Cfg UX ρ where
  live i := (assoc [(0, [0]), (1, [0]), (2, [0, 4]), (3, [0, 4]), (4, [0, 4]), (5, [0, 4, 5, 6]), (6, [0, 4, 5, 6, 7]), (7, []), (8, [0, 4, 5, 6, 7]), (9, [0, 4, 5, 6, 7]), (10, []), (11, [0, 4, 5, 6, 7]), (12, [0, 4, 5, 6, 7, 8]), (13, [0, 4, 5, 7]), (14, [0, 4, 5, 6, 7, 8]), (15, [0, 4, 5, 6, 7]), (16, [4, 5, 6]), (17, []), (18, [4, 5]), (19, [5]), (20, [5])] i).getD []
  boxes i := (assoc [(0, []), (1, []), (2, []), (3, []), (4, []), (5, []), (6, []), (7, []), (8, []), (9, []), (10, []), (11, []), (12, []), (13, []), (14, []), (15, []), (16, []), (17, []), (18, []), (19, []), (20, [])] i).getD []
  tk i := (assoc [] i).getD []
  n := 80
  labelR l := (assoc [(1, 8)] l).getD 0
  loops := assoc []
  labels := assoc [(1, cast_Int_g1_s k)]
  joins := assoc [(15, cast_Int_j15_s k), (11, cast_Int_j11_s k), (8, cast_Int_j8_s k), (4, cast_Int_j4_s k), (2, cast_Int_j2_s k)]
  xl i e := match e with
    | .nxt => assoc [] i
    | .ret => assoc [(8, ([2, 3], [])), (4, ([2, 3], [])), (2, ([2, 3], [])), (8, ([2, 3], []))] i
    | .exit j => (assoc [] i).bind fun l => assoc l j
    | .goto j => (assoc [(15, [(1, ([0, 4, 5, 6, 7], []))]), (11, [(1, ([0, 4, 5, 6, 7], []))]), (8, [(0, ([4, 5, 6], [])), (1, ([0, 4, 5, 6, 7], []))]), (4, [(0, ([4, 5, 6], [])), (1, ([0, 4, 5, 6, 7], []))]), (2, [(0, ([4, 5, 6], [])), (1, ([0, 4, 5, 6, 7], []))])] i).bind fun l => assoc l j
noncomputable def cast_Int_L : List Code := selI [] (loopsOf cast_Int_code)
noncomputable def cast_Int_J : List Code := selI [15, 11, 8, 4, 2] (joinsOf cast_Int_code)
noncomputable def cast_Int_S : List Code := scopesOf cast_Int_code
theorem cast_Int_j2_eq0 {ρ : Type} (k : Nat) (K : Ex → St UU → Option ρ) (s0 : ByteArray) (neg4 : Bool) : exec UX (cast_Int_cfg k) (cast_Int_G k) (cast_Int_J.getD 0 .skip) ⟨[(0, .pv (.str s0)), (4, .pv (.bool neg4))], []⟩ (nrmK UX (cast_Int_cfg k) 2 K) = cast_Int_j2 k (fun t2 t3 => K .ret ⟨[(2, .pv (.int .i64 t2)), (3, .pv (.int .i64 t3))], []⟩) (fun neg4 n5 over6 => K (.goto 0) ⟨[(4, .pv (.bool neg4)), (5, .pv (.int .i64 n5)), (6, .pv (.bool over6))], []⟩) (fun s0 neg4 n5 over6 i7 => K (.goto 1) ⟨[(0, .pv (.str s0)), (4, .pv (.bool neg4)), (5, .pv (.int .i64 n5)), (6, .pv (.bool over6)), (7, .pv (.int .i64 i7))], []⟩) s0 neg4 := by kernel_rfl
theorem cast_Int_j2_ok0 {ρ : Type} (k : Nat) : JoinOK UX (cast_Int_cfg (ρ := ρ) k) (cast_Int_G k) (cast_Int_J.getD 0 .skip) 2 (cast_Int_j2_s k) := by
  intro s K r h
  obtain ⟨env, hp⟩ := s
  unfold cast_Int_j2_s at h
  replace h := popS_inv h; obtain ⟨v1, e2, rfl, h⟩ := h
  replace h := asS_inv h; obtain ⟨s0, rfl, h⟩ := h
  replace h := popS_inv h; obtain ⟨v3, e4, rfl, h⟩ := h
  replace h := asB_inv h; obtain ⟨neg4, rfl, h⟩ := h
  replace h := popN_inv h; obtain ⟨rfl, h⟩ := h
  replace h := popN_inv h; obtain ⟨rfl, h⟩ := h
  exact (cast_Int_j2_eq0 k K s0 neg4).trans h
theorem cast_Int_j4_eq1 {ρ : Type} (k : Nat) (K : Ex → St UU → Option ρ) (s0 : ByteArray) (neg4 : Bool) : exec UX (cast_Int_cfg k) (cast_Int_G k) (cast_Int_J.getD 1 .skip) ⟨[(0, .pv (.str s0)), (4, .pv (.bool neg4))], []⟩ (nrmK UX (cast_Int_cfg k) 4 K) = cast_Int_j4 k (fun t2 t3 => K .ret ⟨[(2, .pv (.int .i64 t2)), (3, .pv (.int .i64 t3))], []⟩) (fun neg4 n5 over6 => K (.goto 0) ⟨[(4, .pv (.bool neg4)), (5, .pv (.int .i64 n5)), (6, .pv (.bool over6))], []⟩) (fun s0 neg4 n5 over6 i7 => K (.goto 1) ⟨[(0, .pv (.str s0)), (4, .pv (.bool neg4)), (5, .pv (.int .i64 n5)), (6, .pv (.bool over6)), (7, .pv (.int .i64 i7))], []⟩) s0 neg4 := by kernel_rfl
theorem cast_Int_j4_ok1 {ρ : Type} (k : Nat) : JoinOK UX (cast_Int_cfg (ρ := ρ) k) (cast_Int_G k) (cast_Int_J.getD 1 .skip) 4 (cast_Int_j4_s k) := by
  intro s K r h
  obtain ⟨env, hp⟩ := s
  unfold cast_Int_j4_s at h
  replace h := popS_inv h; obtain ⟨v1, e2, rfl, h⟩ := h
  replace h := asS_inv h; obtain ⟨s0, rfl, h⟩ := h
  replace h := popS_inv h; obtain ⟨v3, e4, rfl, h⟩ := h
  replace h := asB_inv h; obtain ⟨neg4, rfl, h⟩ := h
  replace h := popN_inv h; obtain ⟨rfl, h⟩ := h
  replace h := popN_inv h; obtain ⟨rfl, h⟩ := h
  exact (cast_Int_j4_eq1 k K s0 neg4).trans h
theorem cast_Int_j8_eq2 {ρ : Type} (k : Nat) (K : Ex → St UU → Option ρ) (s0 : ByteArray) (neg4 : Bool) (n5 : Int) (over6 : Bool) (i7 : Int) : exec UX (cast_Int_cfg k) (cast_Int_G k) (cast_Int_J.getD 2 .skip) ⟨[(0, .pv (.str s0)), (4, .pv (.bool neg4)), (5, .pv (.int .i64 n5)), (6, .pv (.bool over6)), (7, .pv (.int .i64 i7))], []⟩ (nrmK UX (cast_Int_cfg k) 8 K) = cast_Int_j8 k (fun neg4 n5 over6 => K (.goto 0) ⟨[(4, .pv (.bool neg4)), (5, .pv (.int .i64 n5)), (6, .pv (.bool over6))], []⟩) (fun t2 t3 => K .ret ⟨[(2, .pv (.int .i64 t2)), (3, .pv (.int .i64 t3))], []⟩) (fun s0 neg4 n5 over6 i7 => K (.goto 1) ⟨[(0, .pv (.str s0)), (4, .pv (.bool neg4)), (5, .pv (.int .i64 n5)), (6, .pv (.bool over6)), (7, .pv (.int .i64 i7))], []⟩) s0 neg4 n5 over6 i7 := by kernel_rfl
theorem cast_Int_j8_ok2 {ρ : Type} (k : Nat) : JoinOK UX (cast_Int_cfg (ρ := ρ) k) (cast_Int_G k) (cast_Int_J.getD 2 .skip) 8 (cast_Int_j8_s k) := by
  intro s K r h
  obtain ⟨env, hp⟩ := s
  unfold cast_Int_j8_s at h
  replace h := popS_inv h; obtain ⟨v1, e2, rfl, h⟩ := h
  replace h := asS_inv h; obtain ⟨s0, rfl, h⟩ := h
  replace h := popS_inv h; obtain ⟨v3, e4, rfl, h⟩ := h
  replace h := asB_inv h; obtain ⟨neg4, rfl, h⟩ := h
  replace h := popS_inv h; obtain ⟨v5, e6, rfl, h⟩ := h
  replace h := asI_inv h; obtain ⟨n5, rfl, h⟩ := h
  replace h := popS_inv h; obtain ⟨v7, e8, rfl, h⟩ := h
  replace h := asB_inv h; obtain ⟨over6, rfl, h⟩ := h
  replace h := popS_inv h; obtain ⟨v9, e10, rfl, h⟩ := h
  replace h := asI_inv h; obtain ⟨i7, rfl, h⟩ := h
  replace h := popN_inv h; obtain ⟨rfl, h⟩ := h
  replace h := popN_inv h; obtain ⟨rfl, h⟩ := h
  exact (cast_Int_j8_eq2 k K s0 neg4 n5 over6 i7).trans h
theorem cast_Int_j11_eq3 {ρ : Type} (k : Nat) (K : Ex → St UU → Option ρ) (s0 : ByteArray) (neg4 : Bool) (n5 : Int) (over6 : Bool) (i7 : Int) : exec UX (cast_Int_cfg k) (cast_Int_G k) (cast_Int_J.getD 3 .skip) ⟨[(0, .pv (.str s0)), (4, .pv (.bool neg4)), (5, .pv (.int .i64 n5)), (6, .pv (.bool over6)), (7, .pv (.int .i64 i7))], []⟩ (nrmK UX (cast_Int_cfg k) 11 K) = cast_Int_j11 k (fun s0 neg4 n5 over6 i7 => K (.goto 1) ⟨[(0, .pv (.str s0)), (4, .pv (.bool neg4)), (5, .pv (.int .i64 n5)), (6, .pv (.bool over6)), (7, .pv (.int .i64 i7))], []⟩) s0 neg4 n5 over6 i7 := by kernel_rfl
theorem cast_Int_j11_ok3 {ρ : Type} (k : Nat) : JoinOK UX (cast_Int_cfg (ρ := ρ) k) (cast_Int_G k) (cast_Int_J.getD 3 .skip) 11 (cast_Int_j11_s k) := by
  intro s K r h
  obtain ⟨env, hp⟩ := s
  unfold cast_Int_j11_s at h
  replace h := popS_inv h; obtain ⟨v1, e2, rfl, h⟩ := h
  replace h := asS_inv h; obtain ⟨s0, rfl, h⟩ := h
  replace h := popS_inv h; obtain ⟨v3, e4, rfl, h⟩ := h
  replace h := asB_inv h; obtain ⟨neg4, rfl, h⟩ := h
  replace h := popS_inv h; obtain ⟨v5, e6, rfl, h⟩ := h
  replace h := asI_inv h; obtain ⟨n5, rfl, h⟩ := h
  replace h := popS_inv h; obtain ⟨v7, e8, rfl, h⟩ := h
  replace h := asB_inv h; obtain ⟨over6, rfl, h⟩ := h
  replace h := popS_inv h; obtain ⟨v9, e10, rfl, h⟩ := h
  replace h := asI_inv h; obtain ⟨i7, rfl, h⟩ := h
  replace h := popN_inv h; obtain ⟨rfl, h⟩ := h
  replace h := popN_inv h; obtain ⟨rfl, h⟩ := h
  exact (cast_Int_j11_eq3 k K s0 neg4 n5 over6 i7).trans h
theorem cast_Int_j15_eq4 {ρ : Type} (k : Nat) (K : Ex → St UU → Option ρ) (s0 : ByteArray) (neg4 : Bool) (n5 : Int) (over6 : Bool) (i7 : Int) : exec UX (cast_Int_cfg k) (cast_Int_G k) (cast_Int_J.getD 4 .skip) ⟨[(0, .pv (.str s0)), (4, .pv (.bool neg4)), (5, .pv (.int .i64 n5)), (6, .pv (.bool over6)), (7, .pv (.int .i64 i7))], []⟩ (nrmK UX (cast_Int_cfg k) 15 K) = cast_Int_j15 k (fun s0 neg4 n5 over6 i7 => K (.goto 1) ⟨[(0, .pv (.str s0)), (4, .pv (.bool neg4)), (5, .pv (.int .i64 n5)), (6, .pv (.bool over6)), (7, .pv (.int .i64 i7))], []⟩) s0 neg4 n5 over6 i7 := by kernel_rfl
theorem cast_Int_j15_ok4 {ρ : Type} (k : Nat) : JoinOK UX (cast_Int_cfg (ρ := ρ) k) (cast_Int_G k) (cast_Int_J.getD 4 .skip) 15 (cast_Int_j15_s k) := by
  intro s K r h
  obtain ⟨env, hp⟩ := s
  unfold cast_Int_j15_s at h
  replace h := popS_inv h; obtain ⟨v1, e2, rfl, h⟩ := h
  replace h := asS_inv h; obtain ⟨s0, rfl, h⟩ := h
  replace h := popS_inv h; obtain ⟨v3, e4, rfl, h⟩ := h
  replace h := asB_inv h; obtain ⟨neg4, rfl, h⟩ := h
  replace h := popS_inv h; obtain ⟨v5, e6, rfl, h⟩ := h
  replace h := asI_inv h; obtain ⟨n5, rfl, h⟩ := h
  replace h := popS_inv h; obtain ⟨v7, e8, rfl, h⟩ := h
  replace h := asB_inv h; obtain ⟨over6, rfl, h⟩ := h
  replace h := popS_inv h; obtain ⟨v9, e10, rfl, h⟩ := h
  replace h := asI_inv h; obtain ⟨i7, rfl, h⟩ := h
  replace h := popN_inv h; obtain ⟨rfl, h⟩ := h
  replace h := popN_inv h; obtain ⟨rfl, h⟩ := h
  exact (cast_Int_j15_eq4 k K s0 neg4 n5 over6 i7).trans h
noncomputable def cast_Int_g1_f0 {ρ : Type} (k : Nat) : Run UX ρ := (suff UX (cast_Int_cfg k) (cast_Int_G k) (cast_Int_S.getD 0 .skip) 1).getD fun _ _ => none
theorem cast_Int_g1_eq0 {ρ : Type} (k : Nat) (K : Ex → St UU → Option ρ) : ∀ (n : Nat) (v : ByteArray × Bool × Int × Bool × Int), scopeN UX (fun l s => s.at (cast_Int_cfg (ρ := ρ) k).live (cast_Int_cfg (ρ := ρ) k).boxes (some ((cast_Int_cfg (ρ := ρ) k).labelR l))) (suff UX (cast_Int_cfg k) (cast_Int_G k) (cast_Int_S.getD 0 .skip)) (fun l => ((cast_Int_cfg (ρ := ρ) k).labels l).isSome) n (cast_Int_g1_f0 k) ⟨[(0, .pv (.str v.1)), (4, .pv (.bool v.2.1)), (5, .pv (.int .i64 v.2.2.1)), (6, .pv (.bool v.2.2.2.1)), (7, .pv (.int .i64 v.2.2.2.2))], []⟩ (nrmK UX (cast_Int_cfg k) ((cast_Int_cfg (ρ := ρ) k).labelR 1) K) = cast_Int_g1 k (fun t2 t3 => K .ret ⟨[(2, .pv (.int .i64 t2)), (3, .pv (.int .i64 t3))], []⟩) n v.1 v.2.1 v.2.2.1 v.2.2.2.1 v.2.2.2.2 :=
  scope_rec (X := UX) (fun _ => cast_Int_g1_f0 k) (fun v => ⟨[(0, .pv (.str v.1)), (4, .pv (.bool v.2.1)), (5, .pv (.int .i64 v.2.2.1)), (6, .pv (.bool v.2.2.2.1)), (7, .pv (.int .i64 v.2.2.2.2))], []⟩) (fun rec v => cast_Int_g1_b k (fun t2 t3 => K .ret ⟨[(2, .pv (.int .i64 t2)), (3, .pv (.int .i64 t3))], []⟩) (fun s0 neg4 n5 over6 i7 => rec (s0, neg4, n5, over6, i7)) v.1 v.2.1 v.2.2.1 v.2.2.2.1 v.2.2.2.2) (fun n v => cast_Int_g1 k (fun t2 t3 => K .ret ⟨[(2, .pv (.int .i64 t2)), (3, .pv (.int .i64 t3))], []⟩) n v.1 v.2.1 v.2.2.1 v.2.2.2.1 v.2.2.2.2) (fun n v => by kernel_rfl) (fun _ => rfl) (fun _ _ => rfl)
theorem cast_Int_g1_ok0 {ρ : Type} (k : Nat) : LabOK UX (cast_Int_cfg (ρ := ρ) k) (cast_Int_G k) (cast_Int_S.getD 0 .skip) 1 (cast_Int_g1_s k) := by
  intro f hf s K r h
  have hf : cast_Int_g1_f0 k = f := by unfold cast_Int_g1_f0; rw [hf]; rfl
  subst hf
  obtain ⟨env, hp⟩ := s
  unfold cast_Int_g1_s at h
  replace h := popS_inv h; obtain ⟨v1, e2, rfl, h⟩ := h
  replace h := asS_inv h; obtain ⟨s0, rfl, h⟩ := h
  replace h := popS_inv h; obtain ⟨v3, e4, rfl, h⟩ := h
  replace h := asB_inv h; obtain ⟨neg4, rfl, h⟩ := h
  replace h := popS_inv h; obtain ⟨v5, e6, rfl, h⟩ := h
  replace h := asI_inv h; obtain ⟨n5, rfl, h⟩ := h
  replace h := popS_inv h; obtain ⟨v7, e8, rfl, h⟩ := h
  replace h := asB_inv h; obtain ⟨over6, rfl, h⟩ := h
  replace h := popS_inv h; obtain ⟨v9, e10, rfl, h⟩ := h
  replace h := asI_inv h; obtain ⟨i7, rfl, h⟩ := h
  replace h := popN_inv h; obtain ⟨rfl, h⟩ := h
  replace h := popN_inv h; obtain ⟨rfl, h⟩ := h
  exact ⟨k, (cast_Int_g1_eq0 k K k (s0, neg4, n5, over6, i7)).trans h⟩
theorem cast_Int_cok {ρ : Type} (k : Nat) : COK (cast_Int_cfg (ρ := ρ) k) (cast_Int_G k) cast_Int_code :=
  cok_of (tl := []) (tj := [(15, cast_Int_j15_s k), (11, cast_Int_j11_s k), (8, cast_Int_j8_s k), (4, cast_Int_j4_s k), (2, cast_Int_j2_s k)]) (tb := [(1, cast_Int_g1_s k)]) rfl rfl rfl (nil_all (by kernel_rfl)) (all_nth 5 (by kernel_rfl) ⟨join_case (by kernel_rfl) rfl (cast_Int_j15_ok4 k), join_case (by kernel_rfl) rfl (cast_Int_j11_ok3 k), join_case (by kernel_rfl) rfl (cast_Int_j8_ok2 k), join_case (by kernel_rfl) rfl (cast_Int_j4_ok1 k), join_case (by kernel_rfl) rfl (cast_Int_j2_ok0 k), trivial⟩) (fun p hp => by
    simp only [List.mem_cons, List.not_mem_nil, or_false] at hp
    subst hp
    · exact all_nth 1 (by kernel_rfl) ⟨cast_Int_g1_ok0 k, trivial⟩)
noncomputable def cast_Int_enc (r : Int × Int) : AV UU := .pv (.tup [.int .i64 r.1, .int .i64 r.2])
noncomputable def cast_Int_dec (v : AV UU) (_ : List (List (AV UU))) : Option (Int × Int) :=
asT v fun q1 =>
popA q1 fun p2 q3 =>
asI .i64 (.pv p2) fun r0 =>
popA q3 fun p4 q5 =>
asI .i64 (.pv p4) fun r1 =>
popN q5 <|
some (r0, r1)
theorem cast_Int_dec_enc (v : AV UU) (b : List (List (AV UU))) (r : Int × Int) (h : cast_Int_dec v b = some r) : v = cast_Int_enc r := by
  unfold cast_Int_dec at h
  replace h := asT_inv h; obtain ⟨q1, rfl, h⟩ := h
  replace h := popA_inv h; obtain ⟨p2, q3, rfl, h⟩ := h
  replace h := asI_inv h; obtain ⟨r0, e, h⟩ := h; cases e
  replace h := popA_inv h; obtain ⟨p4, q5, rfl, h⟩ := h
  replace h := asI_inv h; obtain ⟨r1, e, h⟩ := h; cases e
  replace h := popN_inv h; obtain ⟨rfl, h⟩ := h
  cases h
  rfl
theorem cast_Int_eq (k : Nat) (s0 : ByteArray) : bodyK UX (cast_Int_cfg k) (cast_Int_G k) Tryd.f8 [.pv (.str s0)] [] cast_Int_dec = cast_Int k s0 := by kernel_rfl
theorem cast_Int_con (k : Nat) (s0 : ByteArray) (r : Int × Int) (h : cast_Int k s0 = some r) : Con (X := UX) Tryd.prog 8 [.pv (.str s0)] [] (cast_Int_enc r) [] :=
  con_of_body xok tok Tryd.func8 cast_Int_body (cast_Int_gok k) rfl (cast_Int_cok k) (of_decide_eq_true (by kernel_rfl)) cast_Int_dec_enc ((cast_Int_eq k s0).trans h)
noncomputable def cast_Int_an {ρ : Type} (k : Nat) : An UX ρ := fun args bx K =>
popA args fun v1 a2 =>
asS v1 fun s0 =>
popN a2 <|
popN bx <|
(cast_Int k s0).bind fun r => K (cast_Int_enc r) []
theorem cast_Int_ok {ρ : Type} (k : Nat) : AnsOK Tryd.prog 8 (cast_Int_an (ρ := ρ) k) := by
  intro args bx K r h
  unfold cast_Int_an at h
  replace h := popA_inv h; obtain ⟨v1, a2, rfl, h⟩ := h
  replace h := asS_inv h; obtain ⟨s0, rfl, h⟩ := h
  replace h := popN_inv h; obtain ⟨rfl, h⟩ := h
  replace h := popN_inv h; obtain ⟨rfl, h⟩ := h
  replace h := bind_inv h
  obtain ⟨x, hx, h⟩ := h
  exact ⟨there_of Tryd.func8 (by kernel_rfl) cast_Int_body, _, _, h, cast_Int_con k s0 x hx⟩

/-! cadastre/cadastreref2.Int -/
noncomputable def cadastreref2_Int_code : Code := match Tryd.f29.body with | some c => c | none => .skip
theorem cadastreref2_Int_body : Tryd.f29.body = some cadastreref2_Int_code := by kernel_rfl
noncomputable def cadastreref2_Int_G {ρ : Type} (k : Nat) : Ans UX ρ := gnil
theorem cadastreref2_Int_gok {ρ : Type} (k : Nat) : GOK Tryd.prog (cadastreref2_Int_G (ρ := ρ) k) := gok_nil
noncomputable def cadastreref2_Int_cfg {ρ : Type} (k : Nat) : Cfg UX ρ where
  live i := (assoc [(0, [0]), (1, [0, 2])] i).getD []
  boxes i := (assoc [(0, []), (1, [2])] i).getD []
  tk i := (assoc [] i).getD []
  n := 5
  labelR l := (assoc [] l).getD 0
  loops := assoc []
  labels := assoc []
  joins := assoc []
  xl i e := match e with
    | .nxt => assoc [] i
    | .ret => assoc [] i
    | .exit j => (assoc [] i).bind fun l => assoc l j
    | .goto j => (assoc [] i).bind fun l => assoc l j
noncomputable def cadastreref2_Int_L : List Code := selI [] (loopsOf cadastreref2_Int_code)
noncomputable def cadastreref2_Int_J : List Code := selI [] (joinsOf cadastreref2_Int_code)
noncomputable def cadastreref2_Int_S : List Code := scopesOf cadastreref2_Int_code
theorem cadastreref2_Int_cok {ρ : Type} (k : Nat) : COK (cadastreref2_Int_cfg (ρ := ρ) k) (cadastreref2_Int_G k) cadastreref2_Int_code :=
  cok_of (tl := []) (tj := []) (tb := []) rfl rfl rfl (nil_all (by kernel_rfl)) (nil_all (by kernel_rfl)) (fun p hp => by cases hp)
noncomputable def cadastreref2_Int_enc (r : S23) : AV UU := .pv (.typ (.s23 r))
noncomputable def cadastreref2_Int_dec (v : AV UU) (_ : List (List (AV UU))) : Option S23 :=
as_s23 v fun r0 =>
some r0
theorem cadastreref2_Int_dec_enc (v : AV UU) (b : List (List (AV UU))) (r : S23) (h : cadastreref2_Int_dec v b = some r) : v = cadastreref2_Int_enc r := by
  unfold cadastreref2_Int_dec at h
  replace h := as_s23_inv h; obtain ⟨r0, rfl, h⟩ := h
  cases h
  rfl
theorem cadastreref2_Int_eq (k : Nat) (n0 : Int) : bodyK UX (cadastreref2_Int_cfg k) (cadastreref2_Int_G k) Tryd.f29 [.pv (.int .i64 n0)] [] cadastreref2_Int_dec = cadastreref2_Int k n0 := by kernel_rfl
theorem cadastreref2_Int_con (k : Nat) (n0 : Int) (r : S23) (h : cadastreref2_Int k n0 = some r) : Con (X := UX) Tryd.prog 29 [.pv (.int .i64 n0)] [] (cadastreref2_Int_enc r) [] :=
  con_of_body xok tok Tryd.func29 cadastreref2_Int_body (cadastreref2_Int_gok k) rfl (cadastreref2_Int_cok k) (of_decide_eq_true (by kernel_rfl)) cadastreref2_Int_dec_enc ((cadastreref2_Int_eq k n0).trans h)
noncomputable def cadastreref2_Int_an {ρ : Type} (k : Nat) : An UX ρ := fun args bx K =>
popA args fun v1 a2 =>
asI .i64 v1 fun n0 =>
popN a2 <|
popN bx <|
(cadastreref2_Int k n0).bind fun r => K (cadastreref2_Int_enc r) []
theorem cadastreref2_Int_ok {ρ : Type} (k : Nat) : AnsOK Tryd.prog 29 (cadastreref2_Int_an (ρ := ρ) k) := by
  intro args bx K r h
  unfold cadastreref2_Int_an at h
  replace h := popA_inv h; obtain ⟨v1, a2, rfl, h⟩ := h
  replace h := asI_inv h; obtain ⟨n0, rfl, h⟩ := h
  replace h := popN_inv h; obtain ⟨rfl, h⟩ := h
  replace h := popN_inv h; obtain ⟨rfl, h⟩ := h
  replace h := bind_inv h
  obtain ⟨x, hx, h⟩ := h
  exact ⟨there_of Tryd.func29 (by kernel_rfl) cadastreref2_Int_body, _, _, h, cadastreref2_Int_con k n0 x hx⟩

/-! cadastre/cadastreref4.mul -/
noncomputable def cadastreref4_mul_code : Code := match Tryd.f42.body with | some c => c | none => .skip
theorem cadastreref4_mul_body : Tryd.f42.body = some cadastreref4_mul_code := by kernel_rfl
noncomputable def cadastreref4_mul_G {ρ : Type} (k : Nat) : Ans UX ρ := gnil
theorem cadastreref4_mul_gok {ρ : Type} (k : Nat) : GOK Tryd.prog (cadastreref4_mul_G (ρ := ρ) k) := gok_nil
noncomputable def cadastreref4_mul_j5_s {ρ : Type} (k : Nat) : Run UX ρ := fun s K =>
popS 0 s.env fun v1 e2 =>
asI .i64 v1 fun a0 =>
popS 1 e2 fun v3 e4 =>
asI .i64 v3 fun b1 =>
popN e4 <|
popN s.hp <|
cadastreref4_mul_j5 k (fun t4 t5 => K .ret ⟨[(4, .pv (.int .i64 t4)), (5, .pv (.bool t5))], []⟩) a0 b1
noncomputable def cadastreref4_mul_j3_s {ρ : Type} (k : Nat) : Run UX ρ := fun s K =>
popS 0 s.env fun v1 e2 =>
asI .i64 v1 fun a0 =>
popS 1 e2 fun v3 e4 =>
asI .i64 v3 fun b1 =>
popN e4 <|
popN s.hp <|
cadastreref4_mul_j3 k (fun t4 t5 => K .ret ⟨[(4, .pv (.int .i64 t4)), (5, .pv (.bool t5))], []⟩) a0 b1
noncomputable def cadastreref4_mul_cfg {ρ : Type} (k : Nat) : Cfg UX ρ where
  live i := (assoc [(0, [0, 1]), (1, [0, 1]), (2, []), (3, [0, 1]), (4, []), (5, [0, 1]), (6, [0, 1, 6])] i).getD []
  boxes i := (assoc [(0, []), (1, []), (2, []), (3, []), (4, []), (5, []), (6, [])] i).getD []
  tk i := (assoc [] i).getD []
  n := 36
  labelR l := (assoc [] l).getD 0
  loops := assoc []
  labels := assoc []
  joins := assoc [(5, cadastreref4_mul_j5_s k), (3, cadastreref4_mul_j3_s k)]
  xl i e := match e with
    | .nxt => assoc [] i
    | .ret => assoc [(5, ([4, 5], [])), (3, ([4, 5], []))] i
    | .exit j => (assoc [] i).bind fun l => assoc l j
    | .goto j => (assoc [] i).bind fun l => assoc l j
noncomputable def cadastreref4_mul_L : List Code := selI [] (loopsOf cadastreref4_mul_code)
noncomputable def cadastreref4_mul_J : List Code := selI [5, 3] (joinsOf cadastreref4_mul_code)
noncomputable def cadastreref4_mul_S : List Code := scopesOf cadastreref4_mul_code
theorem cadastreref4_mul_j3_eq0 {ρ : Type} (k : Nat) (K : Ex → St UU → Option ρ) (a0 : Int) (b1 : Int) : exec UX (cadastreref4_mul_cfg k) (cadastreref4_mul_G k) (cadastreref4_mul_J.getD 0 .skip) ⟨[(0, .pv (.int .i64 a0)), (1, .pv (.int .i64 b1))], []⟩ (nrmK UX (cadastreref4_mul_cfg k) 3 K) = cadastreref4_mul_j3 k (fun t4 t5 => K .ret ⟨[(4, .pv (.int .i64 t4)), (5, .pv (.bool t5))], []⟩) a0 b1 := by kernel_rfl
theorem cadastreref4_mul_j3_ok0 {ρ : Type} (k : Nat) : JoinOK UX (cadastreref4_mul_cfg (ρ := ρ) k) (cadastreref4_mul_G k) (cadastreref4_mul_J.getD 0 .skip) 3 (cadastreref4_mul_j3_s k) := by
  intro s K r h
  obtain ⟨env, hp⟩ := s
  unfold cadastreref4_mul_j3_s at h
  replace h := popS_inv h; obtain ⟨v1, e2, rfl, h⟩ := h
  replace h := asI_inv h; obtain ⟨a0, rfl, h⟩ := h
  replace h := popS_inv h; obtain ⟨v3, e4, rfl, h⟩ := h
  replace h := asI_inv h; obtain ⟨b1, rfl, h⟩ := h
  replace h := popN_inv h; obtain ⟨rfl, h⟩ := h
  replace h := popN_inv h; obtain ⟨rfl, h⟩ := h
  exact (cadastreref4_mul_j3_eq0 k K a0 b1).trans h
theorem cadastreref4_mul_j5_eq1 {ρ : Type} (k : Nat) (K : Ex → St UU → Option ρ) (a0 : Int) (b1 : Int) : exec UX (cadastreref4_mul_cfg k) (cadastreref4_mul_G k) (cadastreref4_mul_J.getD 1 .skip) ⟨[(0, .pv (.int .i64 a0)), (1, .pv (.int .i64 b1))], []⟩ (nrmK UX (cadastreref4_mul_cfg k) 5 K) = cadastreref4_mul_j5 k (fun t4 t5 => K .ret ⟨[(4, .pv (.int .i64 t4)), (5, .pv (.bool t5))], []⟩) a0 b1 := by kernel_rfl
theorem cadastreref4_mul_j5_ok1 {ρ : Type} (k : Nat) : JoinOK UX (cadastreref4_mul_cfg (ρ := ρ) k) (cadastreref4_mul_G k) (cadastreref4_mul_J.getD 1 .skip) 5 (cadastreref4_mul_j5_s k) := by
  intro s K r h
  obtain ⟨env, hp⟩ := s
  unfold cadastreref4_mul_j5_s at h
  replace h := popS_inv h; obtain ⟨v1, e2, rfl, h⟩ := h
  replace h := asI_inv h; obtain ⟨a0, rfl, h⟩ := h
  replace h := popS_inv h; obtain ⟨v3, e4, rfl, h⟩ := h
  replace h := asI_inv h; obtain ⟨b1, rfl, h⟩ := h
  replace h := popN_inv h; obtain ⟨rfl, h⟩ := h
  replace h := popN_inv h; obtain ⟨rfl, h⟩ := h
  exact (cadastreref4_mul_j5_eq1 k K a0 b1).trans h
theorem cadastreref4_mul_cok {ρ : Type} (k : Nat) : COK (cadastreref4_mul_cfg (ρ := ρ) k) (cadastreref4_mul_G k) cadastreref4_mul_code :=
  cok_of (tl := []) (tj := [(5, cadastreref4_mul_j5_s k), (3, cadastreref4_mul_j3_s k)]) (tb := []) rfl rfl rfl (nil_all (by kernel_rfl)) (all_nth 2 (by kernel_rfl) ⟨join_case (by kernel_rfl) rfl (cadastreref4_mul_j5_ok1 k), join_case (by kernel_rfl) rfl (cadastreref4_mul_j3_ok0 k), trivial⟩) (fun p hp => by cases hp)
noncomputable def cadastreref4_mul_enc (r : Int × Bool) : AV UU := .pv (.tup [.int .i64 r.1, .bool r.2])
noncomputable def cadastreref4_mul_dec (v : AV UU) (_ : List (List (AV UU))) : Option (Int × Bool) :=
asT v fun q1 =>
popA q1 fun p2 q3 =>
asI .i64 (.pv p2) fun r0 =>
popA q3 fun p4 q5 =>
asB (.pv p4) fun r1 =>
popN q5 <|
some (r0, r1)
theorem cadastreref4_mul_dec_enc (v : AV UU) (b : List (List (AV UU))) (r : Int × Bool) (h : cadastreref4_mul_dec v b = some r) : v = cadastreref4_mul_enc r := by
  unfold cadastreref4_mul_dec at h
  replace h := asT_inv h; obtain ⟨q1, rfl, h⟩ := h
  replace h := popA_inv h; obtain ⟨p2, q3, rfl, h⟩ := h
  replace h := asI_inv h; obtain ⟨r0, e, h⟩ := h; cases e
  replace h := popA_inv h; obtain ⟨p4, q5, rfl, h⟩ := h
  replace h := asB_inv h; obtain ⟨r1, e, h⟩ := h; cases e
  replace h := popN_inv h; obtain ⟨rfl, h⟩ := h
  cases h
  rfl
theorem cadastreref4_mul_eq (k : Nat) (a0 : Int) (b1 : Int) : bodyK UX (cadastreref4_mul_cfg k) (cadastreref4_mul_G k) Tryd.f42 [.pv (.int .i64 a0), .pv (.int .i64 b1)] [] cadastreref4_mul_dec = cadastreref4_mul k a0 b1 := by kernel_rfl
theorem cadastreref4_mul_con (k : Nat) (a0 : Int) (b1 : Int) (r : Int × Bool) (h : cadastreref4_mul k a0 b1 = some r) : Con (X := UX) Tryd.prog 42 [.pv (.int .i64 a0), .pv (.int .i64 b1)] [] (cadastreref4_mul_enc r) [] :=
  con_of_body xok tok Tryd.func42 cadastreref4_mul_body (cadastreref4_mul_gok k) rfl (cadastreref4_mul_cok k) (of_decide_eq_true (by kernel_rfl)) cadastreref4_mul_dec_enc ((cadastreref4_mul_eq k a0 b1).trans h)
noncomputable def cadastreref4_mul_an {ρ : Type} (k : Nat) : An UX ρ := fun args bx K =>
popA args fun v1 a2 =>
asI .i64 v1 fun a0 =>
popA a2 fun v3 a4 =>
asI .i64 v3 fun b1 =>
popN a4 <|
popN bx <|
(cadastreref4_mul k a0 b1).bind fun r => K (cadastreref4_mul_enc r) []
theorem cadastreref4_mul_ok {ρ : Type} (k : Nat) : AnsOK Tryd.prog 42 (cadastreref4_mul_an (ρ := ρ) k) := by
  intro args bx K r h
  unfold cadastreref4_mul_an at h
  replace h := popA_inv h; obtain ⟨v1, a2, rfl, h⟩ := h
  replace h := asI_inv h; obtain ⟨a0, rfl, h⟩ := h
  replace h := popA_inv h; obtain ⟨v3, a4, rfl, h⟩ := h
  replace h := asI_inv h; obtain ⟨b1, rfl, h⟩ := h
  replace h := popN_inv h; obtain ⟨rfl, h⟩ := h
  replace h := popN_inv h; obtain ⟨rfl, h⟩ := h
  replace h := bind_inv h
  obtain ⟨x, hx, h⟩ := h
  exact ⟨there_of Tryd.func42 (by kernel_rfl) cadastreref4_mul_body, _, _, h, cadastreref4_mul_con k a0 b1 x hx⟩

/-! cadastre/cadastreref4.Do -/
noncomputable def cadastreref4_Do_code : Code := match Tryd.f28.body with | some c => c | none => .skip
theorem cadastreref4_Do_body : Tryd.f28.body = some cadastreref4_Do_code := by kernel_rfl
noncomputable def cadastreref4_Do_G {ρ : Type} (k : Nat) : Ans UX ρ := gk 42 (cadastreref4_mul_an k) (gk 29 (cadastreref2_Int_an k) (gnil))
theorem cadastreref4_Do_gok {ρ : Type} (k : Nat) : GOK Tryd.prog (cadastreref4_Do_G (ρ := ρ) k) := gok_cons (cadastreref4_mul_ok k) (gok_cons (cadastreref2_Int_ok k) (gok_nil))
noncomputable def cadastreref4_Do_j28_s {ρ : Type} (k : Nat) : Run UX ρ := fun s K =>
popS 6 s.env fun v1 e2 =>
asP 6 0 v1 <|
popS 10 e2 fun v3 e4 =>
asI .i64 v3 fun n10 =>
popS 11 e4 fun v5 e6 =>
asB v5 fun ok11 =>
popN e6 <|
popB 6 s.hp fun c7 e8 =>
popA c7 fun v9 c10 =>
asI .i64 v9 fun z11 =>
popA c10 fun v12 c13 =>
asI .i64 v12 fun z14 =>
popA c13 fun v15 c16 =>
asS v15 fun z17 =>
popN c16 <|
popN e8 <|
cadastreref4_Do_j28 k (fun t7 t6 => K .ret ⟨[(6, .ptr 6 0), (7, .pv (.int .i64 t7))], [(6, [.pv (.int .i64 t6.f0), .pv (.int .i64 t6.f1), .pv (.str t6.f2)])]⟩) n10 ok11 (⟨z11, z14, z17⟩ : S23)
noncomputable def cadastreref4_Do_j5_s {ρ : Type} (k : Nat) : Run UX ρ := fun s K =>
popS 0 s.env fun v1 e2 =>
asI .i64 v1 fun op0 =>
popS 4 e2 fun v3 e4 =>
asP 4 0 v3 <|
popS 5 e4 fun v5 e6 =>
asP 5 0 v5 <|
popS 6 e6 fun v7 e8 =>
asP 6 0 v7 <|
popN e8 <|
popB 4 s.hp fun c9 e10 =>
popA c9 fun v11 c12 =>
asI .i64 v11 fun z13 =>
popA c12 fun v14 c15 =>
asI .i64 v14 fun z16 =>
popA c15 fun v17 c18 =>
asS v17 fun z19 =>
popN c18 <|
popB 5 e10 fun c20 e21 =>
popA c20 fun v22 c23 =>
asI .i64 v22 fun z24 =>
popA c23 fun v25 c26 =>
asI .i64 v25 fun z27 =>
popA c26 fun v28 c29 =>
asS v28 fun z30 =>
popN c29 <|
popB 6 e21 fun c31 e32 =>
popA c31 fun v33 c34 =>
asI .i64 v33 fun z35 =>
popA c34 fun v36 c37 =>
asI .i64 v36 fun z38 =>
popA c37 fun v39 c40 =>
asS v39 fun z41 =>
popN c40 <|
popN e32 <|
cadastreref4_Do_j5 k (fun t7 t6 => K .ret ⟨[(6, .ptr 6 0), (7, .pv (.int .i64 t7))], [(6, [.pv (.int .i64 t6.f0), .pv (.int .i64 t6.f1), .pv (.str t6.f2)])]⟩) op0 (⟨z13, z16, z19⟩ : S23) (⟨z24, z27, z30⟩ : S23) (⟨z35, z38, z41⟩ : S23)
noncomputable def cadastreref4_Do_j3_s {ρ : Type} (k : Nat) : Run UX ρ := fun s K =>
popS 0 s.env fun v1 e2 =>
asI .i64 v1 fun op0 =>
popS 4 e2 fun v3 e4 =>
asP 4 0 v3 <|
popS 5 e4 fun v5 e6 =>
asP 5 0 v5 <|
popS 6 e6 fun v7 e8 =>
asP 6 0 v7 <|
popN e8 <|
popB 4 s.hp fun c9 e10 =>
popA c9 fun v11 c12 =>
asI .i64 v11 fun z13 =>
popA c12 fun v14 c15 =>
asI .i64 v14 fun z16 =>
popA c15 fun v17 c18 =>
asS v17 fun z19 =>
popN c18 <|
popB 5 e10 fun c20 e21 =>
popA c20 fun v22 c23 =>
asI .i64 v22 fun z24 =>
popA c23 fun v25 c26 =>
asI .i64 v25 fun z27 =>
popA c26 fun v28 c29 =>
asS v28 fun z30 =>
popN c29 <|
popB 6 e21 fun c31 e32 =>
popA c31 fun v33 c34 =>
asI .i64 v33 fun z35 =>
popA c34 fun v36 c37 =>
asI .i64 v36 fun z38 =>
popA c37 fun v39 c40 =>
asS v39 fun z41 =>
popN c40 <|
popN e32 <|
cadastreref4_Do_j3 k (fun t7 t6 => K .ret ⟨[(6, .ptr 6 0), (7, .pv (.int .i64 t7))], [(6, [.pv (.int .i64 t6.f0), .pv (.int .i64 t6.f1), .pv (.str t6.f2)])]⟩) op0 (⟨z13, z16, z19⟩ : S23) (⟨z24, z27, z30⟩ : S23) (⟨z35, z38, z41⟩ : S23)
noncomputable def cadastreref4_Do_cfg {ρ : Type} (k : Nat) : Cfg UX ρ where
  live i := (assoc [(0, [0, 1, 2]), (1, [0, 4, 5, 6]), (2, [6]), (3, [0, 4, 5, 6]), (4, [6]), (5, [0, 4, 5, 6]), (6, [0, 5, 6, 8]), (7, [0, 6, 8, 9]), (8, [0, 6, 8, 9]), (9, [0, 6, 8, 9, 11]), (10, [0, 6, 8, 9, 11]), (11, [6]), (12, [0, 6, 8, 9, 11]), (13, [0, 6, 8]), (14, [6]), (15, [6, 8]), (16, [6, 8, 10]), (17, [0, 6, 8, 9, 11]), (18, [6, 8, 9, 11]), (19, [6, 8, 9, 11]), (20, [0, 6, 8, 9, 11, 34]), (21, [6, 8, 9]), (22, [0, 6, 8, 9, 11, 34]), (23, [6, 8, 9]), (24, [6, 8, 9, 10]), (25, [0, 6, 8, 9, 11, 34]), (26, [6, 8, 9]), (27, [6, 8, 9, 10]), (28, [6, 10, 11]), (29, [6]), (30, [6, 10])] i).getD []
  boxes i := (assoc [(0, []), (1, [4, 5, 6]), (2, [6]), (3, [4, 5, 6]), (4, [6]), (5, [4, 5, 6]), (6, [5, 6]), (7, [6]), (8, [6]), (9, [6]), (10, [6]), (11, [6]), (12, [6]), (13, [6]), (14, [6]), (15, [6]), (16, [6]), (17, [6]), (18, [6]), (19, [6]), (20, [6]), (21, [6]), (22, [6]), (23, [6]), (24, [6]), (25, [6]), (26, [6]), (27, [6]), (28, [6]), (29, [6]), (30, [6])] i).getD []
  tk i := (assoc [] i).getD []
  n := 90
  labelR l := (assoc [] l).getD 0
  loops := assoc []
  labels := assoc []
  joins := assoc [(28, cadastreref4_Do_j28_s k), (5, cadastreref4_Do_j5_s k), (3, cadastreref4_Do_j3_s k)]
  xl i e := match e with
    | .nxt => assoc [] i
    | .ret => assoc [(28, ([6, 7], [6])), (5, ([6, 7], [6])), (3, ([6, 7], [6]))] i
    | .exit j => (assoc [] i).bind fun l => assoc l j
    | .goto j => (assoc [] i).bind fun l => assoc l j
noncomputable def cadastreref4_Do_L : List Code := selI [] (loopsOf cadastreref4_Do_code)
noncomputable def cadastreref4_Do_J : List Code := selI [28, 5, 3] (joinsOf cadastreref4_Do_code)
noncomputable def cadastreref4_Do_S : List Code := scopesOf cadastreref4_Do_code
theorem cadastreref4_Do_j3_eq0 {ρ : Type} (k : Nat) (K : Ex → St UU → Option ρ) (op0 : Int) (a4 : S23) (b5 : S23) (t6 : S23) : exec UX (cadastreref4_Do_cfg k) (cadastreref4_Do_G k) (cadastreref4_Do_J.getD 0 .skip) ⟨[(0, .pv (.int .i64 op0)), (4, .ptr 4 0), (5, .ptr 5 0), (6, .ptr 6 0)], [(4, [.pv (.int .i64 a4.f0), .pv (.int .i64 a4.f1), .pv (.str a4.f2)]), (5, [.pv (.int .i64 b5.f0), .pv (.int .i64 b5.f1), .pv (.str b5.f2)]), (6, [.pv (.int .i64 t6.f0), .pv (.int .i64 t6.f1), .pv (.str t6.f2)])]⟩ (nrmK UX (cadastreref4_Do_cfg k) 3 K) = cadastreref4_Do_j3 k (fun t7 t6 => K .ret ⟨[(6, .ptr 6 0), (7, .pv (.int .i64 t7))], [(6, [.pv (.int .i64 t6.f0), .pv (.int .i64 t6.f1), .pv (.str t6.f2)])]⟩) op0 a4 b5 t6 := by kernel_rfl
theorem cadastreref4_Do_j3_ok0 {ρ : Type} (k : Nat) : JoinOK UX (cadastreref4_Do_cfg (ρ := ρ) k) (cadastreref4_Do_G k) (cadastreref4_Do_J.getD 0 .skip) 3 (cadastreref4_Do_j3_s k) := by
  intro s K r h
  obtain ⟨env, hp⟩ := s
  unfold cadastreref4_Do_j3_s at h
  replace h := popS_inv h; obtain ⟨v1, e2, rfl, h⟩ := h
  replace h := asI_inv h; obtain ⟨op0, rfl, h⟩ := h
  replace h := popS_inv h; obtain ⟨v3, e4, rfl, h⟩ := h
  replace h := asP_inv h; obtain ⟨rfl, h⟩ := h
  replace h := popS_inv h; obtain ⟨v5, e6, rfl, h⟩ := h
  replace h := asP_inv h; obtain ⟨rfl, h⟩ := h
  replace h := popS_inv h; obtain ⟨v7, e8, rfl, h⟩ := h
  replace h := asP_inv h; obtain ⟨rfl, h⟩ := h
  replace h := popN_inv h; obtain ⟨rfl, h⟩ := h
  replace h := popB_inv h; obtain ⟨c9, e10, rfl, h⟩ := h
  replace h := popA_inv h; obtain ⟨v11, c12, rfl, h⟩ := h
  replace h := asI_inv h; obtain ⟨z13, rfl, h⟩ := h
  replace h := popA_inv h; obtain ⟨v14, c15, rfl, h⟩ := h
  replace h := asI_inv h; obtain ⟨z16, rfl, h⟩ := h
  replace h := popA_inv h; obtain ⟨v17, c18, rfl, h⟩ := h
  replace h := asS_inv h; obtain ⟨z19, rfl, h⟩ := h
  replace h := popN_inv h; obtain ⟨rfl, h⟩ := h
  replace h := popB_inv h; obtain ⟨c20, e21, rfl, h⟩ := h
  replace h := popA_inv h; obtain ⟨v22, c23, rfl, h⟩ := h
  replace h := asI_inv h; obtain ⟨z24, rfl, h⟩ := h
  replace h := popA_inv h; obtain ⟨v25, c26, rfl, h⟩ := h
  replace h := asI_inv h; obtain ⟨z27, rfl, h⟩ := h
  replace h := popA_inv h; obtain ⟨v28, c29, rfl, h⟩ := h
  replace h := asS_inv h; obtain ⟨z30, rfl, h⟩ := h
  replace h := popN_inv h; obtain ⟨rfl, h⟩ := h
  replace h := popB_inv h; obtain ⟨c31, e32, rfl, h⟩ := h
  replace h := popA_inv h; obtain ⟨v33, c34, rfl, h⟩ := h
  replace h := asI_inv h; obtain ⟨z35, rfl, h⟩ := h
  replace h := popA_inv h; obtain ⟨v36, c37, rfl, h⟩ := h
  replace h := asI_inv h; obtain ⟨z38, rfl, h⟩ := h
  replace h := popA_inv h; obtain ⟨v39, c40, rfl, h⟩ := h
  replace h := asS_inv h; obtain ⟨z41, rfl, h⟩ := h
  replace h := popN_inv h; obtain ⟨rfl, h⟩ := h
  replace h := popN_inv h; obtain ⟨rfl, h⟩ := h
  exact (cadastreref4_Do_j3_eq0 k K op0 (⟨z13, z16, z19⟩ : S23) (⟨z24, z27, z30⟩ : S23) (⟨z35, z38, z41⟩ : S23)).trans h
theorem cadastreref4_Do_j5_eq1 {ρ : Type} (k : Nat) (K : Ex → St UU → Option ρ) (op0 : Int) (a4 : S23) (b5 : S23) (t6 : S23) : exec UX (cadastreref4_Do_cfg k) (cadastreref4_Do_G k) (cadastreref4_Do_J.getD 1 .skip) ⟨[(0, .pv (.int .i64 op0)), (4, .ptr 4 0), (5, .ptr 5 0), (6, .ptr 6 0)], [(4, [.pv (.int .i64 a4.f0), .pv (.int .i64 a4.f1), .pv (.str a4.f2)]), (5, [.pv (.int .i64 b5.f0), .pv (.int .i64 b5.f1), .pv (.str b5.f2)]), (6, [.pv (.int .i64 t6.f0), .pv (.int .i64 t6.f1), .pv (.str t6.f2)])]⟩ (nrmK UX (cadastreref4_Do_cfg k) 5 K) = cadastreref4_Do_j5 k (fun t7 t6 => K .ret ⟨[(6, .ptr 6 0), (7, .pv (.int .i64 t7))], [(6, [.pv (.int .i64 t6.f0), .pv (.int .i64 t6.f1), .pv (.str t6.f2)])]⟩) op0 a4 b5 t6 := by kernel_rfl
theorem cadastreref4_Do_j5_ok1 {ρ : Type} (k : Nat) : JoinOK UX (cadastreref4_Do_cfg (ρ := ρ) k) (cadastreref4_Do_G k) (cadastreref4_Do_J.getD 1 .skip) 5 (cadastreref4_Do_j5_s k) := by
  intro s K r h
  obtain ⟨env, hp⟩ := s
  unfold cadastreref4_Do_j5_s at h
  replace h := popS_inv h; obtain ⟨v1, e2, rfl, h⟩ := h
  replace h := asI_inv h; obtain ⟨op0, rfl, h⟩ := h
  replace h := popS_inv h; obtain ⟨v3, e4, rfl, h⟩ := h
  replace h := asP_inv h; obtain ⟨rfl, h⟩ := h
  replace h := popS_inv h; obtain ⟨v5, e6, rfl, h⟩ := h
  replace h := asP_inv h; obtain ⟨rfl, h⟩ := h
  replace h := popS_inv h; obtain ⟨v7, e8, rfl, h⟩ := h
  replace h := asP_inv h; obtain ⟨rfl, h⟩ := h
  replace h := popN_inv h; obtain ⟨rfl, h⟩ := h
  replace h := popB_inv h; obtain ⟨c9, e10, rfl, h⟩ := h
  replace h := popA_inv h; obtain ⟨v11, c12, rfl, h⟩ := h
  replace h := asI_inv h; obtain ⟨z13, rfl, h⟩ := h
  replace h := popA_inv h; obtain ⟨v14, c15, rfl, h⟩ := h
  replace h := asI_inv h; obtain ⟨z16, rfl, h⟩ := h
  replace h := popA_inv h; obtain ⟨v17, c18, rfl, h⟩ := h
  replace h := asS_inv h; obtain ⟨z19, rfl, h⟩ := h
  replace h := popN_inv h; obtain ⟨rfl, h⟩ := h
  replace h := popB_inv h; obtain ⟨c20, e21, rfl, h⟩ := h
  replace h := popA_inv h; obtain ⟨v22, c23, rfl, h⟩ := h
  replace h := asI_inv h; obtain ⟨z24, rfl, h⟩ := h
  replace h := popA_inv h; obtain ⟨v25, c26, rfl, h⟩ := h
  replace h := asI_inv h; obtain ⟨z27, rfl, h⟩ := h
  replace h := popA_inv h; obtain ⟨v28, c29, rfl, h⟩ := h
  replace h := asS_inv h; obtain ⟨z30, rfl, h⟩ := h
  replace h := popN_inv h; obtain ⟨rfl, h⟩ := h
  replace h := popB_inv h; obtain ⟨c31, e32, rfl, h⟩ := h
  replace h := popA_inv h; obtain ⟨v33, c34, rfl, h⟩ := h
  replace h := asI_inv h; obtain ⟨z35, rfl, h⟩ := h
  replace h := popA_inv h; obtain ⟨v36, c37, rfl, h⟩ := h
  replace h := asI_inv h; obtain ⟨z38, rfl, h⟩ := h
  replace h := popA_inv h; obtain ⟨v39, c40, rfl, h⟩ := h
  replace h := asS_inv h; obtain ⟨z41, rfl, h⟩ := h
  replace h := popN_inv h; obtain ⟨rfl, h⟩ := h
  replace h := popN_inv h; obtain ⟨rfl, h⟩ := h
  exact (cadastreref4_Do_j5_eq1 k K op0 (⟨z13, z16, z19⟩ : S23) (⟨z24, z27, z30⟩ : S23) (⟨z35, z38, z41⟩ : S23)).trans h
theorem cadastreref4_Do_j28_eq2 {ρ : Type} (k : Nat) (K : Ex → St UU → Option ρ) (n10 : Int) (ok11 : Bool) (t6 : S23) : exec UX (cadastreref4_Do_cfg k) (cadastreref4_Do_G k) (cadastreref4_Do_J.getD 2 .skip) ⟨[(6, .ptr 6 0), (10, .pv (.int .i64 n10)), (11, .pv (.bool ok11))], [(6, [.pv (.int .i64 t6.f0), .pv (.int .i64 t6.f1), .pv (.str t6.f2)])]⟩ (nrmK UX (cadastreref4_Do_cfg k) 28 K) = cadastreref4_Do_j28 k (fun t7 t6 => K .ret ⟨[(6, .ptr 6 0), (7, .pv (.int .i64 t7))], [(6, [.pv (.int .i64 t6.f0), .pv (.int .i64 t6.f1), .pv (.str t6.f2)])]⟩) n10 ok11 t6 := by kernel_rfl
theorem cadastreref4_Do_j28_ok2 {ρ : Type} (k : Nat) : JoinOK UX (cadastreref4_Do_cfg (ρ := ρ) k) (cadastreref4_Do_G k) (cadastreref4_Do_J.getD 2 .skip) 28 (cadastreref4_Do_j28_s k) := by
  intro s K r h
  obtain ⟨env, hp⟩ := s
  unfold cadastreref4_Do_j28_s at h
  replace h := popS_inv h; obtain ⟨v1, e2, rfl, h⟩ := h
  replace h := asP_inv h; obtain ⟨rfl, h⟩ := h
  replace h := popS_inv h; obtain ⟨v3, e4, rfl, h⟩ := h
  replace h := asI_inv h; obtain ⟨n10, rfl, h⟩ := h
  replace h := popS_inv h; obtain ⟨v5, e6, rfl, h⟩ := h
  replace h := asB_inv h; obtain ⟨ok11, rfl, h⟩ := h
  replace h := popN_inv h; obtain ⟨rfl, h⟩ := h
  replace h := popB_inv h; obtain ⟨c7, e8, rfl, h⟩ := h
  replace h := popA_inv h; obtain ⟨v9, c10, rfl, h⟩ := h
  replace h := asI_inv h; obtain ⟨z11, rfl, h⟩ := h
  replace h := popA_inv h; obtain ⟨v12, c13, rfl, h⟩ := h
  replace h := asI_inv h; obtain ⟨z14, rfl, h⟩ := h
  replace h := popA_inv h; obtain ⟨v15, c16, rfl, h⟩ := h
  replace h := asS_inv h; obtain ⟨z17, rfl, h⟩ := h
  replace h := popN_inv h; obtain ⟨rfl, h⟩ := h
  replace h := popN_inv h; obtain ⟨rfl, h⟩ := h
  exact (cadastreref4_Do_j28_eq2 k K n10 ok11 (⟨z11, z14, z17⟩ : S23)).trans h
theorem cadastreref4_Do_cok {ρ : Type} (k : Nat) : COK (cadastreref4_Do_cfg (ρ := ρ) k) (cadastreref4_Do_G k) cadastreref4_Do_code :=
  cok_of (tl := []) (tj := [(28, cadastreref4_Do_j28_s k), (5, cadastreref4_Do_j5_s k), (3, cadastreref4_Do_j3_s k)]) (tb := []) rfl rfl rfl (nil_all (by kernel_rfl)) (all_nth 3 (by kernel_rfl) ⟨join_case (by kernel_rfl) rfl (cadastreref4_Do_j28_ok2 k), join_case (by kernel_rfl) rfl (cadastreref4_Do_j5_ok1 k), join_case (by kernel_rfl) rfl (cadastreref4_Do_j3_ok0 k), trivial⟩) (fun p hp => by cases hp)
noncomputable def cadastreref4_Do_enc (r : S23 × Int) : AV UU := .pv (.tup [.typ (.s23 r.1), .int .i64 r.2])
noncomputable def cadastreref4_Do_dec (v : AV UU) (_ : List (List (AV UU))) : Option (S23 × Int) :=
asT v fun q1 =>
popA q1 fun p2 q3 =>
as_s23 (.pv p2) fun r0 =>
popA q3 fun p4 q5 =>
asI .i64 (.pv p4) fun r1 =>
popN q5 <|
some (r0, r1)
theorem cadastreref4_Do_dec_enc (v : AV UU) (b : List (List (AV UU))) (r : S23 × Int) (h : cadastreref4_Do_dec v b = some r) : v = cadastreref4_Do_enc r := by
  unfold cadastreref4_Do_dec at h
  replace h := asT_inv h; obtain ⟨q1, rfl, h⟩ := h
  replace h := popA_inv h; obtain ⟨p2, q3, rfl, h⟩ := h
  replace h := as_s23_inv h; obtain ⟨r0, e, h⟩ := h; cases e
  replace h := popA_inv h; obtain ⟨p4, q5, rfl, h⟩ := h
  replace h := asI_inv h; obtain ⟨r1, e, h⟩ := h; cases e
  replace h := popN_inv h; obtain ⟨rfl, h⟩ := h
  cases h
  rfl
theorem cadastreref4_Do_eq (k : Nat) (op0 : Int) (a1 : S23) (b2 : S23) : bodyK UX (cadastreref4_Do_cfg k) (cadastreref4_Do_G k) Tryd.f28 [.pv (.int .i64 op0), .pv (.typ (.s23 a1)), .pv (.typ (.s23 b2))] [] cadastreref4_Do_dec = cadastreref4_Do k op0 a1 b2 := by kernel_rfl
theorem cadastreref4_Do_con (k : Nat) (op0 : Int) (a1 : S23) (b2 : S23) (r : S23 × Int) (h : cadastreref4_Do k op0 a1 b2 = some r) : Con (X := UX) Tryd.prog 28 [.pv (.int .i64 op0), .pv (.typ (.s23 a1)), .pv (.typ (.s23 b2))] [] (cadastreref4_Do_enc r) [] :=
  con_of_body xok tok Tryd.func28 cadastreref4_Do_body (cadastreref4_Do_gok k) rfl (cadastreref4_Do_cok k) (of_decide_eq_true (by kernel_rfl)) cadastreref4_Do_dec_enc ((cadastreref4_Do_eq k op0 a1 b2).trans h)
noncomputable def cadastreref4_Do_an {ρ : Type} (k : Nat) : An UX ρ := fun args bx K =>
popA args fun v1 a2 =>
asI .i64 v1 fun op0 =>
popA a2 fun v3 a4 =>
as_s23 v3 fun a1 =>
popA a4 fun v5 a6 =>
as_s23 v5 fun b2 =>
popN a6 <|
popN bx <|
(cadastreref4_Do k op0 a1 b2).bind fun r => K (cadastreref4_Do_enc r) []
theorem cadastreref4_Do_ok {ρ : Type} (k : Nat) : AnsOK Tryd.prog 28 (cadastreref4_Do_an (ρ := ρ) k) := by
  intro args bx K r h
  unfold cadastreref4_Do_an at h
  replace h := popA_inv h; obtain ⟨v1, a2, rfl, h⟩ := h
  replace h := asI_inv h; obtain ⟨op0, rfl, h⟩ := h
  replace h := popA_inv h; obtain ⟨v3, a4, rfl, h⟩ := h
  replace h := as_s23_inv h; obtain ⟨a1, rfl, h⟩ := h
  replace h := popA_inv h; obtain ⟨v5, a6, rfl, h⟩ := h
  replace h := as_s23_inv h; obtain ⟨b2, rfl, h⟩ := h
  replace h := popN_inv h; obtain ⟨rfl, h⟩ := h
  replace h := popN_inv h; obtain ⟨rfl, h⟩ := h
  replace h := bind_inv h
  obtain ⟨x, hx, h⟩ := h
  exact ⟨there_of Tryd.func28 (by kernel_rfl) cadastreref4_Do_body, _, _, h, cadastreref4_Do_con k op0 a1 b2 x hx⟩
end Go.Proofs.YtdfmfpbdggefpaaDoor.D
