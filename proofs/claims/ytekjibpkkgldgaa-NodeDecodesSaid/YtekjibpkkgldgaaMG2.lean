/-
  What the program's functions answer: the printed functions' answers.
-/
import Derived.Test.YtekjibpkkgldgaaMG1
namespace Go.Proofs.Ytekjibpkkgldgaa.M
open Go Go.AX
/-! cadastre/node.Decode -/
noncomputable def node_Decode_code : Code := match Try.f34.body with | some c => c | none => .skip
theorem node_Decode_body : Try.f34.body = some node_Decode_code := by kernel_rfl
noncomputable def node_Decode_G {ρ : Type} (k : Nat) : Ans UX ρ := gk 59 (node_cell_an k) (gk 60 (slices_Contains_bool_bool__an k) (gnil))
theorem node_Decode_gok {ρ : Type} (k : Nat) : GOK Try.prog (node_Decode_G (ρ := ρ) k) := gok_cons (node_cell_ok k) (gok_cons (slices_Contains_bool_bool__ok k) (gok_nil))
noncomputable def node_Decode_l14_s {ρ : Type} (k : Nat) : Run UX ρ := fun s K =>
popS 0 s.env fun v1 e2 =>
as_li_u8 v1 fun p0 =>
popS 4 e2 fun v3 e4 =>
asO_lli_u8 v3 fun cells4 =>
popS 6 e4 fun v5 e6 =>
asI .i64 v5 fun n6 =>
popS 7 e6 fun v7 e8 =>
asI .i64 v7 fun i7 =>
popS 8 e8 fun v9 e10 =>
asI .i64 v9 fun places8 =>
popS 9 e10 fun v11 e12 =>
asO_lb v11 fun used9 =>
popS 11 e12 fun v13 e14 =>
as_li_u8 v13 fun c11 =>
popS 12 e14 fun v15 e16 =>
asI .i64 v15 fun end12 =>
popS 13 e16 fun v17 e18 =>
asI .i64 v17 fun k13 =>
popN e18 <|
popN s.hp <|
node_Decode_l14 k (fun p0 cells4 n6 i7 places8 used9 c11 => K (.exit 0) ⟨[(0, .pv (.typ (.li_u8 p0))), (4, .own (.lli_u8 cells4)), (6, .pv (.int .i64 n6)), (7, .pv (.int .i64 i7)), (8, .pv (.int .i64 places8)), (9, .own (.lb used9)), (11, .pv (.typ (.li_u8 c11)))], []⟩) k p0 cells4 n6 i7 places8 used9 c11 end12 k13
noncomputable def node_Decode_j13_s {ρ : Type} (k : Nat) : Run UX ρ := fun s K =>
popS 0 s.env fun v1 e2 =>
as_li_u8 v1 fun p0 =>
popS 4 e2 fun v3 e4 =>
asO_lli_u8 v3 fun cells4 =>
popS 6 e4 fun v5 e6 =>
asI .i64 v5 fun n6 =>
popS 7 e6 fun v7 e8 =>
asI .i64 v7 fun i7 =>
popS 8 e8 fun v9 e10 =>
asI .i64 v9 fun places8 =>
popS 9 e10 fun v11 e12 =>
asO_lb v11 fun used9 =>
popS 10 e12 fun v13 e14 =>
asI .i64 v13 fun at10 =>
popS 11 e14 fun v15 e16 =>
as_li_u8 v15 fun c11 =>
popS 12 e16 fun v17 e18 =>
asI .i64 v17 fun end12 =>
popN e18 <|
popN s.hp <|
node_Decode_j13 k (fun p0 cells4 n6 i7 places8 used9 => K (.goto 1) ⟨[(0, .pv (.typ (.li_u8 p0))), (4, .own (.lli_u8 cells4)), (6, .pv (.int .i64 n6)), (7, .pv (.int .i64 i7)), (8, .pv (.int .i64 places8)), (9, .own (.lb used9))], []⟩) p0 cells4 n6 i7 places8 used9 at10 c11 end12
noncomputable def node_Decode_j11_s {ρ : Type} (k : Nat) : Run UX ρ := fun s K =>
popS 0 s.env fun v1 e2 =>
as_li_u8 v1 fun p0 =>
popS 4 e2 fun v3 e4 =>
asO_lli_u8 v3 fun cells4 =>
popS 6 e4 fun v5 e6 =>
asI .i64 v5 fun n6 =>
popS 7 e6 fun v7 e8 =>
asI .i64 v7 fun i7 =>
popS 8 e8 fun v9 e10 =>
asI .i64 v9 fun places8 =>
popS 9 e10 fun v11 e12 =>
asO_lb v11 fun used9 =>
popS 10 e12 fun v13 e14 =>
asI .i64 v13 fun at10 =>
popN e14 <|
popN s.hp <|
node_Decode_j11 k (K (.goto 0) ⟨[], []⟩) (fun p0 cells4 n6 i7 places8 used9 => K (.goto 1) ⟨[(0, .pv (.typ (.li_u8 p0))), (4, .own (.lli_u8 cells4)), (6, .pv (.int .i64 n6)), (7, .pv (.int .i64 i7)), (8, .pv (.int .i64 places8)), (9, .own (.lb used9))], []⟩) p0 cells4 n6 i7 places8 used9 at10
noncomputable def node_Decode_j8_s {ρ : Type} (k : Nat) : Run UX ρ := fun s K =>
popS 0 s.env fun v1 e2 =>
as_li_u8 v1 fun p0 =>
popS 4 e2 fun v3 e4 =>
asO_lli_u8 v3 fun cells4 =>
popS 6 e4 fun v5 e6 =>
asI .i64 v5 fun n6 =>
popS 7 e6 fun v7 e8 =>
asI .i64 v7 fun i7 =>
popS 8 e8 fun v9 e10 =>
asI .i64 v9 fun places8 =>
popS 9 e10 fun v11 e12 =>
asO_lb v11 fun used9 =>
popN e12 <|
popN s.hp <|
node_Decode_j8 k (K (.goto 0) ⟨[], []⟩) (fun p0 cells4 n6 i7 places8 used9 => K (.goto 1) ⟨[(0, .pv (.typ (.li_u8 p0))), (4, .own (.lli_u8 cells4)), (6, .pv (.int .i64 n6)), (7, .pv (.int .i64 i7)), (8, .pv (.int .i64 places8)), (9, .own (.lb used9))], []⟩) (fun kind2 next3 cells4 e5 => K .ret ⟨[(2, .pv (.int .i64 kind2)), (3, .pv (.int .i64 next3)), (4, .pv (.typ (.lli_u8 cells4))), (5, .pv (.int .i64 e5))], []⟩) p0 cells4 n6 i7 places8 used9
noncomputable def node_Decode_g1_s {ρ : Type} (k : Nat) : Run UX ρ := fun s K =>
popS 0 s.env fun v1 e2 =>
as_li_u8 v1 fun p0 =>
popS 4 e2 fun v3 e4 =>
asO_lli_u8 v3 fun cells4 =>
popS 6 e4 fun v5 e6 =>
asI .i64 v5 fun n6 =>
popS 7 e6 fun v7 e8 =>
asI .i64 v7 fun i7 =>
popS 8 e8 fun v9 e10 =>
asI .i64 v9 fun places8 =>
popS 9 e10 fun v11 e12 =>
asO_lb v11 fun used9 =>
popN e12 <|
popN s.hp <|
node_Decode_g1 k (fun kind2 next3 cells4 e5 => K .ret ⟨[(2, .pv (.int .i64 kind2)), (3, .pv (.int .i64 next3)), (4, .own (.lli_u8 cells4)), (5, .pv (.int .i64 e5))], []⟩) (fun kind2 next3 cells4 e5 => K .ret ⟨[(2, .pv (.int .i64 kind2)), (3, .pv (.int .i64 next3)), (4, .pv (.typ (.lli_u8 cells4))), (5, .pv (.int .i64 e5))], []⟩) k p0 cells4 n6 i7 places8 used9
noncomputable def node_Decode_cfg {ρ : Type} (k : Nat) : Cfg UX ρ where
  live i := (assoc [(0, [0]), (1, [0, 4]), (2, [0, 4, 7]), (3, [0, 4, 7]), (4, [0, 4, 7]), (5, [0, 4, 6, 7]), (6, [0, 4, 6, 7, 8]), (7, [0, 4, 6, 7, 8]), (8, [0, 4, 6, 7, 8, 9]), (9, [0, 4, 6, 7, 8, 9]), (10, [0, 4, 6, 7, 8, 9, 10]), (11, [0, 4, 6, 7, 8, 9, 10]), (12, [0, 4, 6, 7, 8, 9, 10, 11, 12]), (13, [0, 4, 6, 7, 8, 9, 10, 11, 12]), (14, [0, 4, 6, 7, 8, 9, 11, 12, 13]), (15, [0, 4, 6, 7, 8, 9, 11, 12, 13]), (16, [0, 4, 6, 7, 8, 9, 11, 12, 13]), (17, [0, 4, 6, 7, 8, 9, 11]), (18, [0, 4, 6, 7, 8, 9]), (19, [0, 4]), (20, [])] i).getD []
  boxes i := (assoc [(0, []), (1, []), (2, []), (3, []), (4, []), (5, []), (6, []), (7, []), (8, []), (9, []), (10, []), (11, []), (12, []), (13, []), (14, []), (15, []), (16, []), (17, []), (18, []), (19, []), (20, [])] i).getD []
  tk i := (assoc [(1000000, [4, 9]), (2000019, [4])] i).getD []
  n := 117
  labelR l := (assoc [(1, 8)] l).getD 0
  loops := assoc [(14, node_Decode_l14_s k)]
  labels := assoc [(1, node_Decode_g1_s k)]
  joins := assoc [(13, node_Decode_j13_s k), (11, node_Decode_j11_s k), (8, node_Decode_j8_s k)]
  xl i e := match e with
    | .nxt => assoc [] i
    | .ret => assoc [(8, ([2, 3, 4, 5], [])), (8, ([2, 3, 4, 5], []))] i
    | .exit j => (assoc [(14, [(0, ([0, 4, 6, 7, 8, 9, 11], []))])] i).bind fun l => assoc l j
    | .goto j => (assoc [(13, [(1, ([0, 4, 6, 7, 8, 9], []))]), (11, [(0, ([], [])), (1, ([0, 4, 6, 7, 8, 9], []))]), (8, [(0, ([], [])), (1, ([0, 4, 6, 7, 8, 9], []))])] i).bind fun l => assoc l j
noncomputable def node_Decode_L : List Code := selI [14] (loopsOf node_Decode_code)
noncomputable def node_Decode_J : List Code := selI [13, 11, 8] (joinsOf node_Decode_code)
noncomputable def node_Decode_S : List Code := scopesOf node_Decode_code
theorem node_Decode_l14_eq0 {ρ : Type} (k : Nat) (K : Ex → St UU → Option ρ) : ∀ (n : Nat) (v : (List Int) × (List (List Int)) × Int × Int × Int × (List Bool) × (List Int) × Int × Int), iterK UX (fun s => s.at (node_Decode_cfg (ρ := ρ) k).live (node_Decode_cfg (ρ := ρ) k).boxes (some 14)) (exec UX (node_Decode_cfg k) (node_Decode_G k) (node_Decode_L.getD 0 .skip)) n ⟨[(0, .pv (.typ (.li_u8 v.1))), (4, .own (.lli_u8 v.2.1)), (6, .pv (.int .i64 v.2.2.1)), (7, .pv (.int .i64 v.2.2.2.1)), (8, .pv (.int .i64 v.2.2.2.2.1)), (9, .own (.lb v.2.2.2.2.2.1)), (11, .pv (.typ (.li_u8 v.2.2.2.2.2.2.1))), (12, .pv (.int .i64 v.2.2.2.2.2.2.2.1)), (13, .pv (.int .i64 v.2.2.2.2.2.2.2.2))], []⟩ (nrmK UX (node_Decode_cfg k) 14 K) = node_Decode_l14 k (fun p0 cells4 n6 i7 places8 used9 c11 => K (.exit 0) ⟨[(0, .pv (.typ (.li_u8 p0))), (4, .own (.lli_u8 cells4)), (6, .pv (.int .i64 n6)), (7, .pv (.int .i64 i7)), (8, .pv (.int .i64 places8)), (9, .own (.lb used9)), (11, .pv (.typ (.li_u8 c11)))], []⟩) n v.1 v.2.1 v.2.2.1 v.2.2.2.1 v.2.2.2.2.1 v.2.2.2.2.2.1 v.2.2.2.2.2.2.1 v.2.2.2.2.2.2.2.1 v.2.2.2.2.2.2.2.2 :=
  iter_rec (X := UX) (fun v => ⟨[(0, .pv (.typ (.li_u8 v.1))), (4, .own (.lli_u8 v.2.1)), (6, .pv (.int .i64 v.2.2.1)), (7, .pv (.int .i64 v.2.2.2.1)), (8, .pv (.int .i64 v.2.2.2.2.1)), (9, .own (.lb v.2.2.2.2.2.1)), (11, .pv (.typ (.li_u8 v.2.2.2.2.2.2.1))), (12, .pv (.int .i64 v.2.2.2.2.2.2.2.1)), (13, .pv (.int .i64 v.2.2.2.2.2.2.2.2))], []⟩) (fun rec v => node_Decode_l14_b k (fun p0 cells4 n6 i7 places8 used9 c11 => K (.exit 0) ⟨[(0, .pv (.typ (.li_u8 p0))), (4, .own (.lli_u8 cells4)), (6, .pv (.int .i64 n6)), (7, .pv (.int .i64 i7)), (8, .pv (.int .i64 places8)), (9, .own (.lb used9)), (11, .pv (.typ (.li_u8 c11)))], []⟩) (fun p0 cells4 n6 i7 places8 used9 c11 end12 k13 => rec (p0, cells4, n6, i7, places8, used9, c11, end12, k13)) v.1 v.2.1 v.2.2.1 v.2.2.2.1 v.2.2.2.2.1 v.2.2.2.2.2.1 v.2.2.2.2.2.2.1 v.2.2.2.2.2.2.2.1 v.2.2.2.2.2.2.2.2) (fun n v => node_Decode_l14 k (fun p0 cells4 n6 i7 places8 used9 c11 => K (.exit 0) ⟨[(0, .pv (.typ (.li_u8 p0))), (4, .own (.lli_u8 cells4)), (6, .pv (.int .i64 n6)), (7, .pv (.int .i64 i7)), (8, .pv (.int .i64 places8)), (9, .own (.lb used9)), (11, .pv (.typ (.li_u8 c11)))], []⟩) n v.1 v.2.1 v.2.2.1 v.2.2.2.1 v.2.2.2.2.1 v.2.2.2.2.2.1 v.2.2.2.2.2.2.1 v.2.2.2.2.2.2.2.1 v.2.2.2.2.2.2.2.2) (fun n v => by kernel_rfl) (fun _ => rfl) (fun _ _ => rfl)
theorem node_Decode_l14_ok0 {ρ : Type} (k : Nat) : IterOK UX (node_Decode_cfg (ρ := ρ) k) (node_Decode_G k) (node_Decode_L.getD 0 .skip) 14 (node_Decode_l14_s k) := by
  intro s K r h
  obtain ⟨env, hp⟩ := s
  unfold node_Decode_l14_s at h
  replace h := popS_inv h; obtain ⟨v1, e2, rfl, h⟩ := h
  replace h := as_li_u8_inv h; obtain ⟨p0, rfl, h⟩ := h
  replace h := popS_inv h; obtain ⟨v3, e4, rfl, h⟩ := h
  replace h := asO_lli_u8_inv h; obtain ⟨cells4, rfl, h⟩ := h
  replace h := popS_inv h; obtain ⟨v5, e6, rfl, h⟩ := h
  replace h := asI_inv h; obtain ⟨n6, rfl, h⟩ := h
  replace h := popS_inv h; obtain ⟨v7, e8, rfl, h⟩ := h
  replace h := asI_inv h; obtain ⟨i7, rfl, h⟩ := h
  replace h := popS_inv h; obtain ⟨v9, e10, rfl, h⟩ := h
  replace h := asI_inv h; obtain ⟨places8, rfl, h⟩ := h
  replace h := popS_inv h; obtain ⟨v11, e12, rfl, h⟩ := h
  replace h := asO_lb_inv h; obtain ⟨used9, rfl, h⟩ := h
  replace h := popS_inv h; obtain ⟨v13, e14, rfl, h⟩ := h
  replace h := as_li_u8_inv h; obtain ⟨c11, rfl, h⟩ := h
  replace h := popS_inv h; obtain ⟨v15, e16, rfl, h⟩ := h
  replace h := asI_inv h; obtain ⟨end12, rfl, h⟩ := h
  replace h := popS_inv h; obtain ⟨v17, e18, rfl, h⟩ := h
  replace h := asI_inv h; obtain ⟨k13, rfl, h⟩ := h
  replace h := popN_inv h; obtain ⟨rfl, h⟩ := h
  replace h := popN_inv h; obtain ⟨rfl, h⟩ := h
  exact ⟨k, (node_Decode_l14_eq0 k K k (p0, cells4, n6, i7, places8, used9, c11, end12, k13)).trans h⟩
theorem node_Decode_j8_eq0 {ρ : Type} (k : Nat) (K : Ex → St UU → Option ρ) (p0 : List Int) (cells4 : List (List Int)) (n6 : Int) (i7 : Int) (places8 : Int) (used9 : List Bool) : exec UX (node_Decode_cfg k) (node_Decode_G k) (node_Decode_J.getD 0 .skip) ⟨[(0, .pv (.typ (.li_u8 p0))), (4, .own (.lli_u8 cells4)), (6, .pv (.int .i64 n6)), (7, .pv (.int .i64 i7)), (8, .pv (.int .i64 places8)), (9, .own (.lb used9))], []⟩ (nrmK UX (node_Decode_cfg k) 8 K) = node_Decode_j8 k (K (.goto 0) ⟨[], []⟩) (fun p0 cells4 n6 i7 places8 used9 => K (.goto 1) ⟨[(0, .pv (.typ (.li_u8 p0))), (4, .own (.lli_u8 cells4)), (6, .pv (.int .i64 n6)), (7, .pv (.int .i64 i7)), (8, .pv (.int .i64 places8)), (9, .own (.lb used9))], []⟩) (fun kind2 next3 cells4 e5 => K .ret ⟨[(2, .pv (.int .i64 kind2)), (3, .pv (.int .i64 next3)), (4, .pv (.typ (.lli_u8 cells4))), (5, .pv (.int .i64 e5))], []⟩) p0 cells4 n6 i7 places8 used9 := by kernel_rfl
theorem node_Decode_j8_ok0 {ρ : Type} (k : Nat) : JoinOK UX (node_Decode_cfg (ρ := ρ) k) (node_Decode_G k) (node_Decode_J.getD 0 .skip) 8 (node_Decode_j8_s k) := by
  intro s K r h
  obtain ⟨env, hp⟩ := s
  unfold node_Decode_j8_s at h
  replace h := popS_inv h; obtain ⟨v1, e2, rfl, h⟩ := h
  replace h := as_li_u8_inv h; obtain ⟨p0, rfl, h⟩ := h
  replace h := popS_inv h; obtain ⟨v3, e4, rfl, h⟩ := h
  replace h := asO_lli_u8_inv h; obtain ⟨cells4, rfl, h⟩ := h
  replace h := popS_inv h; obtain ⟨v5, e6, rfl, h⟩ := h
  replace h := asI_inv h; obtain ⟨n6, rfl, h⟩ := h
  replace h := popS_inv h; obtain ⟨v7, e8, rfl, h⟩ := h
  replace h := asI_inv h; obtain ⟨i7, rfl, h⟩ := h
  replace h := popS_inv h; obtain ⟨v9, e10, rfl, h⟩ := h
  replace h := asI_inv h; obtain ⟨places8, rfl, h⟩ := h
  replace h := popS_inv h; obtain ⟨v11, e12, rfl, h⟩ := h
  replace h := asO_lb_inv h; obtain ⟨used9, rfl, h⟩ := h
  replace h := popN_inv h; obtain ⟨rfl, h⟩ := h
  replace h := popN_inv h; obtain ⟨rfl, h⟩ := h
  exact (node_Decode_j8_eq0 k K p0 cells4 n6 i7 places8 used9).trans h
theorem node_Decode_j11_eq1 {ρ : Type} (k : Nat) (K : Ex → St UU → Option ρ) (p0 : List Int) (cells4 : List (List Int)) (n6 : Int) (i7 : Int) (places8 : Int) (used9 : List Bool) (at10 : Int) : exec UX (node_Decode_cfg k) (node_Decode_G k) (node_Decode_J.getD 1 .skip) ⟨[(0, .pv (.typ (.li_u8 p0))), (4, .own (.lli_u8 cells4)), (6, .pv (.int .i64 n6)), (7, .pv (.int .i64 i7)), (8, .pv (.int .i64 places8)), (9, .own (.lb used9)), (10, .pv (.int .i64 at10))], []⟩ (nrmK UX (node_Decode_cfg k) 11 K) = node_Decode_j11 k (K (.goto 0) ⟨[], []⟩) (fun p0 cells4 n6 i7 places8 used9 => K (.goto 1) ⟨[(0, .pv (.typ (.li_u8 p0))), (4, .own (.lli_u8 cells4)), (6, .pv (.int .i64 n6)), (7, .pv (.int .i64 i7)), (8, .pv (.int .i64 places8)), (9, .own (.lb used9))], []⟩) p0 cells4 n6 i7 places8 used9 at10 := by kernel_rfl
theorem node_Decode_j11_ok1 {ρ : Type} (k : Nat) : JoinOK UX (node_Decode_cfg (ρ := ρ) k) (node_Decode_G k) (node_Decode_J.getD 1 .skip) 11 (node_Decode_j11_s k) := by
  intro s K r h
  obtain ⟨env, hp⟩ := s
  unfold node_Decode_j11_s at h
  replace h := popS_inv h; obtain ⟨v1, e2, rfl, h⟩ := h
  replace h := as_li_u8_inv h; obtain ⟨p0, rfl, h⟩ := h
  replace h := popS_inv h; obtain ⟨v3, e4, rfl, h⟩ := h
  replace h := asO_lli_u8_inv h; obtain ⟨cells4, rfl, h⟩ := h
  replace h := popS_inv h; obtain ⟨v5, e6, rfl, h⟩ := h
  replace h := asI_inv h; obtain ⟨n6, rfl, h⟩ := h
  replace h := popS_inv h; obtain ⟨v7, e8, rfl, h⟩ := h
  replace h := asI_inv h; obtain ⟨i7, rfl, h⟩ := h
  replace h := popS_inv h; obtain ⟨v9, e10, rfl, h⟩ := h
  replace h := asI_inv h; obtain ⟨places8, rfl, h⟩ := h
  replace h := popS_inv h; obtain ⟨v11, e12, rfl, h⟩ := h
  replace h := asO_lb_inv h; obtain ⟨used9, rfl, h⟩ := h
  replace h := popS_inv h; obtain ⟨v13, e14, rfl, h⟩ := h
  replace h := asI_inv h; obtain ⟨at10, rfl, h⟩ := h
  replace h := popN_inv h; obtain ⟨rfl, h⟩ := h
  replace h := popN_inv h; obtain ⟨rfl, h⟩ := h
  exact (node_Decode_j11_eq1 k K p0 cells4 n6 i7 places8 used9 at10).trans h
theorem node_Decode_j13_eq2 {ρ : Type} (k : Nat) (K : Ex → St UU → Option ρ) (p0 : List Int) (cells4 : List (List Int)) (n6 : Int) (i7 : Int) (places8 : Int) (used9 : List Bool) (at10 : Int) (c11 : List Int) (end12 : Int) : exec UX (node_Decode_cfg k) (node_Decode_G k) (node_Decode_J.getD 2 .skip) ⟨[(0, .pv (.typ (.li_u8 p0))), (4, .own (.lli_u8 cells4)), (6, .pv (.int .i64 n6)), (7, .pv (.int .i64 i7)), (8, .pv (.int .i64 places8)), (9, .own (.lb used9)), (10, .pv (.int .i64 at10)), (11, .pv (.typ (.li_u8 c11))), (12, .pv (.int .i64 end12))], []⟩ (nrmK UX (node_Decode_cfg k) 13 K) = node_Decode_j13 k (fun p0 cells4 n6 i7 places8 used9 => K (.goto 1) ⟨[(0, .pv (.typ (.li_u8 p0))), (4, .own (.lli_u8 cells4)), (6, .pv (.int .i64 n6)), (7, .pv (.int .i64 i7)), (8, .pv (.int .i64 places8)), (9, .own (.lb used9))], []⟩) p0 cells4 n6 i7 places8 used9 at10 c11 end12 := by kernel_rfl
theorem node_Decode_j13_ok2 {ρ : Type} (k : Nat) : JoinOK UX (node_Decode_cfg (ρ := ρ) k) (node_Decode_G k) (node_Decode_J.getD 2 .skip) 13 (node_Decode_j13_s k) := by
  intro s K r h
  obtain ⟨env, hp⟩ := s
  unfold node_Decode_j13_s at h
  replace h := popS_inv h; obtain ⟨v1, e2, rfl, h⟩ := h
  replace h := as_li_u8_inv h; obtain ⟨p0, rfl, h⟩ := h
  replace h := popS_inv h; obtain ⟨v3, e4, rfl, h⟩ := h
  replace h := asO_lli_u8_inv h; obtain ⟨cells4, rfl, h⟩ := h
  replace h := popS_inv h; obtain ⟨v5, e6, rfl, h⟩ := h
  replace h := asI_inv h; obtain ⟨n6, rfl, h⟩ := h
  replace h := popS_inv h; obtain ⟨v7, e8, rfl, h⟩ := h
  replace h := asI_inv h; obtain ⟨i7, rfl, h⟩ := h
  replace h := popS_inv h; obtain ⟨v9, e10, rfl, h⟩ := h
  replace h := asI_inv h; obtain ⟨places8, rfl, h⟩ := h
  replace h := popS_inv h; obtain ⟨v11, e12, rfl, h⟩ := h
  replace h := asO_lb_inv h; obtain ⟨used9, rfl, h⟩ := h
  replace h := popS_inv h; obtain ⟨v13, e14, rfl, h⟩ := h
  replace h := asI_inv h; obtain ⟨at10, rfl, h⟩ := h
  replace h := popS_inv h; obtain ⟨v15, e16, rfl, h⟩ := h
  replace h := as_li_u8_inv h; obtain ⟨c11, rfl, h⟩ := h
  replace h := popS_inv h; obtain ⟨v17, e18, rfl, h⟩ := h
  replace h := asI_inv h; obtain ⟨end12, rfl, h⟩ := h
  replace h := popN_inv h; obtain ⟨rfl, h⟩ := h
  replace h := popN_inv h; obtain ⟨rfl, h⟩ := h
  exact (node_Decode_j13_eq2 k K p0 cells4 n6 i7 places8 used9 at10 c11 end12).trans h
noncomputable def node_Decode_g1_f0 {ρ : Type} (k : Nat) : Run UX ρ := (suff UX (node_Decode_cfg k) (node_Decode_G k) (node_Decode_S.getD 0 .skip) 1).getD fun _ _ => none
theorem node_Decode_g1_eq0 {ρ : Type} (k : Nat) (K : Ex → St UU → Option ρ) : ∀ (n : Nat) (v : (List Int) × (List (List Int)) × Int × Int × Int × (List Bool)), scopeN UX (fun l s => s.at (node_Decode_cfg (ρ := ρ) k).live (node_Decode_cfg (ρ := ρ) k).boxes (some ((node_Decode_cfg (ρ := ρ) k).labelR l))) (suff UX (node_Decode_cfg k) (node_Decode_G k) (node_Decode_S.getD 0 .skip)) (fun l => ((node_Decode_cfg (ρ := ρ) k).labels l).isSome) n (node_Decode_g1_f0 k) ⟨[(0, .pv (.typ (.li_u8 v.1))), (4, .own (.lli_u8 v.2.1)), (6, .pv (.int .i64 v.2.2.1)), (7, .pv (.int .i64 v.2.2.2.1)), (8, .pv (.int .i64 v.2.2.2.2.1)), (9, .own (.lb v.2.2.2.2.2))], []⟩ (nrmK UX (node_Decode_cfg k) ((node_Decode_cfg (ρ := ρ) k).labelR 1) K) = node_Decode_g1 k (fun kind2 next3 cells4 e5 => K .ret ⟨[(2, .pv (.int .i64 kind2)), (3, .pv (.int .i64 next3)), (4, .own (.lli_u8 cells4)), (5, .pv (.int .i64 e5))], []⟩) (fun kind2 next3 cells4 e5 => K .ret ⟨[(2, .pv (.int .i64 kind2)), (3, .pv (.int .i64 next3)), (4, .pv (.typ (.lli_u8 cells4))), (5, .pv (.int .i64 e5))], []⟩) n v.1 v.2.1 v.2.2.1 v.2.2.2.1 v.2.2.2.2.1 v.2.2.2.2.2 :=
  scope_rec (X := UX) (fun _ => node_Decode_g1_f0 k) (fun v => ⟨[(0, .pv (.typ (.li_u8 v.1))), (4, .own (.lli_u8 v.2.1)), (6, .pv (.int .i64 v.2.2.1)), (7, .pv (.int .i64 v.2.2.2.1)), (8, .pv (.int .i64 v.2.2.2.2.1)), (9, .own (.lb v.2.2.2.2.2))], []⟩) (fun rec v => node_Decode_g1_b k (fun kind2 next3 cells4 e5 => K .ret ⟨[(2, .pv (.int .i64 kind2)), (3, .pv (.int .i64 next3)), (4, .own (.lli_u8 cells4)), (5, .pv (.int .i64 e5))], []⟩) (fun kind2 next3 cells4 e5 => K .ret ⟨[(2, .pv (.int .i64 kind2)), (3, .pv (.int .i64 next3)), (4, .pv (.typ (.lli_u8 cells4))), (5, .pv (.int .i64 e5))], []⟩) (fun p0 cells4 n6 i7 places8 used9 => rec (p0, cells4, n6, i7, places8, used9)) v.1 v.2.1 v.2.2.1 v.2.2.2.1 v.2.2.2.2.1 v.2.2.2.2.2) (fun n v => node_Decode_g1 k (fun kind2 next3 cells4 e5 => K .ret ⟨[(2, .pv (.int .i64 kind2)), (3, .pv (.int .i64 next3)), (4, .own (.lli_u8 cells4)), (5, .pv (.int .i64 e5))], []⟩) (fun kind2 next3 cells4 e5 => K .ret ⟨[(2, .pv (.int .i64 kind2)), (3, .pv (.int .i64 next3)), (4, .pv (.typ (.lli_u8 cells4))), (5, .pv (.int .i64 e5))], []⟩) n v.1 v.2.1 v.2.2.1 v.2.2.2.1 v.2.2.2.2.1 v.2.2.2.2.2) (fun n v => by kernel_rfl) (fun _ => rfl) (fun _ _ => rfl)
theorem node_Decode_g1_ok0 {ρ : Type} (k : Nat) : LabOK UX (node_Decode_cfg (ρ := ρ) k) (node_Decode_G k) (node_Decode_S.getD 0 .skip) 1 (node_Decode_g1_s k) := by
  intro f hf s K r h
  have hf : node_Decode_g1_f0 k = f := by unfold node_Decode_g1_f0; rw [hf]; rfl
  subst hf
  obtain ⟨env, hp⟩ := s
  unfold node_Decode_g1_s at h
  replace h := popS_inv h; obtain ⟨v1, e2, rfl, h⟩ := h
  replace h := as_li_u8_inv h; obtain ⟨p0, rfl, h⟩ := h
  replace h := popS_inv h; obtain ⟨v3, e4, rfl, h⟩ := h
  replace h := asO_lli_u8_inv h; obtain ⟨cells4, rfl, h⟩ := h
  replace h := popS_inv h; obtain ⟨v5, e6, rfl, h⟩ := h
  replace h := asI_inv h; obtain ⟨n6, rfl, h⟩ := h
  replace h := popS_inv h; obtain ⟨v7, e8, rfl, h⟩ := h
  replace h := asI_inv h; obtain ⟨i7, rfl, h⟩ := h
  replace h := popS_inv h; obtain ⟨v9, e10, rfl, h⟩ := h
  replace h := asI_inv h; obtain ⟨places8, rfl, h⟩ := h
  replace h := popS_inv h; obtain ⟨v11, e12, rfl, h⟩ := h
  replace h := asO_lb_inv h; obtain ⟨used9, rfl, h⟩ := h
  replace h := popN_inv h; obtain ⟨rfl, h⟩ := h
  replace h := popN_inv h; obtain ⟨rfl, h⟩ := h
  exact ⟨k, (node_Decode_g1_eq0 k K k (p0, cells4, n6, i7, places8, used9)).trans h⟩
theorem node_Decode_cok {ρ : Type} (k : Nat) : COK (node_Decode_cfg (ρ := ρ) k) (node_Decode_G k) node_Decode_code :=
  cok_of (tl := [(14, node_Decode_l14_s k)]) (tj := [(13, node_Decode_j13_s k), (11, node_Decode_j11_s k), (8, node_Decode_j8_s k)]) (tb := [(1, node_Decode_g1_s k)]) rfl rfl rfl (all_nth 1 (by kernel_rfl) ⟨iter_case (by kernel_rfl) rfl (node_Decode_l14_ok0 k), trivial⟩) (all_nth 3 (by kernel_rfl) ⟨join_case (by kernel_rfl) rfl (node_Decode_j13_ok2 k), join_case (by kernel_rfl) rfl (node_Decode_j11_ok1 k), join_case (by kernel_rfl) rfl (node_Decode_j8_ok0 k), trivial⟩) (fun p hp => by
    simp only [List.mem_cons, List.not_mem_nil, or_false] at hp
    subst hp
    · exact all_nth 1 (by kernel_rfl) ⟨node_Decode_g1_ok0 k, trivial⟩)
noncomputable def node_Decode_enc (r : Int × Int × (List (List Int)) × Int) : AV UU := .pv (.tup [.int .i64 r.1, .int .i64 r.2.1, .typ (.lli_u8 r.2.2.1), .int .i64 r.2.2.2])
noncomputable def node_Decode_dec (v : AV UU) (_ : List (List (AV UU))) : Option (Int × Int × (List (List Int)) × Int) :=
asT v fun q1 =>
popA q1 fun p2 q3 =>
asI .i64 (.pv p2) fun r0 =>
popA q3 fun p4 q5 =>
asI .i64 (.pv p4) fun r1 =>
popA q5 fun p6 q7 =>
as_lli_u8 (.pv p6) fun r2 =>
popA q7 fun p8 q9 =>
asI .i64 (.pv p8) fun r3 =>
popN q9 <|
some (r0, r1, r2, r3)
theorem node_Decode_dec_enc (v : AV UU) (b : List (List (AV UU))) (r : Int × Int × (List (List Int)) × Int) (h : node_Decode_dec v b = some r) : v = node_Decode_enc r := by
  unfold node_Decode_dec at h
  replace h := asT_inv h; obtain ⟨q1, rfl, h⟩ := h
  replace h := popA_inv h; obtain ⟨p2, q3, rfl, h⟩ := h
  replace h := asI_inv h; obtain ⟨r0, e, h⟩ := h; cases e
  replace h := popA_inv h; obtain ⟨p4, q5, rfl, h⟩ := h
  replace h := asI_inv h; obtain ⟨r1, e, h⟩ := h; cases e
  replace h := popA_inv h; obtain ⟨p6, q7, rfl, h⟩ := h
  replace h := as_lli_u8_inv h; obtain ⟨r2, e, h⟩ := h; cases e
  replace h := popA_inv h; obtain ⟨p8, q9, rfl, h⟩ := h
  replace h := asI_inv h; obtain ⟨r3, e, h⟩ := h; cases e
  replace h := popN_inv h; obtain ⟨rfl, h⟩ := h
  cases h
  rfl
theorem node_Decode_eq (k : Nat) (p0 : List Int) : bodyK UX (node_Decode_cfg k) (node_Decode_G k) Try.f34 [.pv (.typ (.li_u8 p0))] [] node_Decode_dec = node_Decode k p0 := by kernel_rfl
theorem node_Decode_con (k : Nat) (p0 : List Int) (r : Int × Int × (List (List Int)) × Int) (h : node_Decode k p0 = some r) : Con (X := UX) Try.prog 34 [.pv (.typ (.li_u8 p0))] [] (node_Decode_enc r) [] :=
  con_of_body xok tok Try.func34 node_Decode_body (node_Decode_gok k) rfl (node_Decode_cok k) (of_decide_eq_true (by kernel_rfl)) node_Decode_dec_enc ((node_Decode_eq k p0).trans h)
noncomputable def node_Decode_an {ρ : Type} (k : Nat) : An UX ρ := fun args bx K =>
popA args fun v1 a2 =>
as_li_u8 v1 fun p0 =>
popN a2 <|
popN bx <|
(node_Decode k p0).bind fun r => K (node_Decode_enc r) []
theorem node_Decode_ok {ρ : Type} (k : Nat) : AnsOK Try.prog 34 (node_Decode_an (ρ := ρ) k) := by
  intro args bx K r h
  unfold node_Decode_an at h
  replace h := popA_inv h; obtain ⟨v1, a2, rfl, h⟩ := h
  replace h := as_li_u8_inv h; obtain ⟨p0, rfl, h⟩ := h
  replace h := popN_inv h; obtain ⟨rfl, h⟩ := h
  replace h := popN_inv h; obtain ⟨rfl, h⟩ := h
  replace h := bind_inv h
  obtain ⟨x, hx, h⟩ := h
  exact ⟨there_of Try.func34 (by kernel_rfl) node_Decode_body, _, _, h, node_Decode_con k p0 x hx⟩

/-! cadastre/cadastrelaw11.num -/
noncomputable def cadastrelaw11_num_code : Code := match Try.f30.body with | some c => c | none => .skip
theorem cadastrelaw11_num_body : Try.f30.body = some cadastrelaw11_num_code := by kernel_rfl
noncomputable def cadastrelaw11_num_G {ρ : Type} (k : Nat) : Ans UX ρ := gnil
theorem cadastrelaw11_num_gok {ρ : Type} (k : Nat) : GOK Try.prog (cadastrelaw11_num_G (ρ := ρ) k) := gok_nil
noncomputable def cadastrelaw11_num_cfg {ρ : Type} (k : Nat) : Cfg UX ρ where
  live i := (assoc [(0, [0]), (1, [0])] i).getD []
  boxes i := (assoc [(0, []), (1, [])] i).getD []
  tk i := (assoc [] i).getD []
  n := 4
  labelR l := (assoc [] l).getD 0
  loops := assoc []
  labels := assoc []
  joins := assoc []
  xl i e := match e with
    | .nxt => assoc [] i
    | .ret => assoc [] i
    | .exit j => (assoc [] i).bind fun l => assoc l j
    | .goto j => (assoc [] i).bind fun l => assoc l j
noncomputable def cadastrelaw11_num_L : List Code := selI [] (loopsOf cadastrelaw11_num_code)
noncomputable def cadastrelaw11_num_J : List Code := selI [] (joinsOf cadastrelaw11_num_code)
noncomputable def cadastrelaw11_num_S : List Code := scopesOf cadastrelaw11_num_code
theorem cadastrelaw11_num_cok {ρ : Type} (k : Nat) : COK (cadastrelaw11_num_cfg (ρ := ρ) k) (cadastrelaw11_num_G k) cadastrelaw11_num_code :=
  cok_of (tl := []) (tj := []) (tb := []) rfl rfl rfl (nil_all (by kernel_rfl)) (nil_all (by kernel_rfl)) (fun p hp => by cases hp)
noncomputable def cadastrelaw11_num_enc (r : Int) : AV UU := .pv (.int .i64 r)
noncomputable def cadastrelaw11_num_dec (v : AV UU) (_ : List (List (AV UU))) : Option Int :=
asI .i64 v fun r0 =>
some r0
theorem cadastrelaw11_num_dec_enc (v : AV UU) (b : List (List (AV UU))) (r : Int) (h : cadastrelaw11_num_dec v b = some r) : v = cadastrelaw11_num_enc r := by
  unfold cadastrelaw11_num_dec at h
  replace h := asI_inv h; obtain ⟨r0, rfl, h⟩ := h
  cases h
  rfl
theorem cadastrelaw11_num_eq (k : Nat) (e0 : Int) : bodyK UX (cadastrelaw11_num_cfg k) (cadastrelaw11_num_G k) Try.f30 [.pv (.int .i64 e0)] [] cadastrelaw11_num_dec = cadastrelaw11_num k e0 := by kernel_rfl
theorem cadastrelaw11_num_con (k : Nat) (e0 : Int) (r : Int) (h : cadastrelaw11_num k e0 = some r) : Con (X := UX) Try.prog 30 [.pv (.int .i64 e0)] [] (cadastrelaw11_num_enc r) [] :=
  con_of_body xok tok Try.func30 cadastrelaw11_num_body (cadastrelaw11_num_gok k) rfl (cadastrelaw11_num_cok k) (of_decide_eq_true (by kernel_rfl)) cadastrelaw11_num_dec_enc ((cadastrelaw11_num_eq k e0).trans h)
noncomputable def cadastrelaw11_num_an {ρ : Type} (k : Nat) : An UX ρ := fun args bx K =>
popA args fun v1 a2 =>
asI .i64 v1 fun e0 =>
popN a2 <|
popN bx <|
(cadastrelaw11_num k e0).bind fun r => K (cadastrelaw11_num_enc r) []
theorem cadastrelaw11_num_ok {ρ : Type} (k : Nat) : AnsOK Try.prog 30 (cadastrelaw11_num_an (ρ := ρ) k) := by
  intro args bx K r h
  unfold cadastrelaw11_num_an at h
  replace h := popA_inv h; obtain ⟨v1, a2, rfl, h⟩ := h
  replace h := asI_inv h; obtain ⟨e0, rfl, h⟩ := h
  replace h := popN_inv h; obtain ⟨rfl, h⟩ := h
  replace h := popN_inv h; obtain ⟨rfl, h⟩ := h
  replace h := bind_inv h
  obtain ⟨x, hx, h⟩ := h
  exact ⟨there_of Try.func30 (by kernel_rfl) cadastrelaw11_num_body, _, _, h, cadastrelaw11_num_con k e0 x hx⟩

/-! cadastre/cadastreref0.EqBytes -/
noncomputable def cadastreref0_EqBytes_code : Code := match Try.f24.body with | some c => c | none => .skip
theorem cadastreref0_EqBytes_body : Try.f24.body = some cadastreref0_EqBytes_code := by kernel_rfl
noncomputable def cadastreref0_EqBytes_G {ρ : Type} (k : Nat) : Ans UX ρ := gnil
theorem cadastreref0_EqBytes_gok {ρ : Type} (k : Nat) : GOK Try.prog (cadastreref0_EqBytes_G (ρ := ρ) k) := gok_nil
noncomputable def cadastreref0_EqBytes_l4_s {ρ : Type} (k : Nat) : Run UX ρ := fun s K =>
popS 0 s.env fun v1 e2 =>
as_li_u8 v1 fun a0 =>
popS 1 e2 fun v3 e4 =>
as_li_u8 v3 fun b1 =>
popS 5 e4 fun v5 e6 =>
asI .i64 v5 fun i5 =>
popN e6 <|
popN s.hp <|
cadastreref0_EqBytes_l4 k (fun t4 => K .ret ⟨[(4, .pv (.bool t4))], []⟩) (K (.exit 0) ⟨[], []⟩) k a0 b1 i5
noncomputable def cadastreref0_EqBytes_cfg {ρ : Type} (k : Nat) : Cfg UX ρ where
  live i := (assoc [(0, [0, 1]), (1, [0, 1]), (2, []), (3, [0, 1]), (4, [0, 1, 5]), (5, [0, 1, 5]), (6, [0, 1, 5]), (7, []), (8, [])] i).getD []
  boxes i := (assoc [(0, []), (1, []), (2, []), (3, []), (4, []), (5, []), (6, []), (7, []), (8, [])] i).getD []
  tk i := (assoc [] i).getD []
  n := 26
  labelR l := (assoc [] l).getD 0
  loops := assoc [(4, cadastreref0_EqBytes_l4_s k)]
  labels := assoc []
  joins := assoc []
  xl i e := match e with
    | .nxt => assoc [] i
    | .ret => assoc [(4, ([4], []))] i
    | .exit j => (assoc [(4, [(0, ([], []))])] i).bind fun l => assoc l j
    | .goto j => (assoc [] i).bind fun l => assoc l j
noncomputable def cadastreref0_EqBytes_L : List Code := selI [4] (loopsOf cadastreref0_EqBytes_code)
noncomputable def cadastreref0_EqBytes_J : List Code := selI [] (joinsOf cadastreref0_EqBytes_code)
noncomputable def cadastreref0_EqBytes_S : List Code := scopesOf cadastreref0_EqBytes_code
theorem cadastreref0_EqBytes_l4_eq0 {ρ : Type} (k : Nat) (K : Ex → St UU → Option ρ) : ∀ (n : Nat) (v : (List Int) × (List Int) × Int), iterK UX (fun s => s.at (cadastreref0_EqBytes_cfg (ρ := ρ) k).live (cadastreref0_EqBytes_cfg (ρ := ρ) k).boxes (some 4)) (exec UX (cadastreref0_EqBytes_cfg k) (cadastreref0_EqBytes_G k) (cadastreref0_EqBytes_L.getD 0 .skip)) n ⟨[(0, .pv (.typ (.li_u8 v.1))), (1, .pv (.typ (.li_u8 v.2.1))), (5, .pv (.int .i64 v.2.2))], []⟩ (nrmK UX (cadastreref0_EqBytes_cfg k) 4 K) = cadastreref0_EqBytes_l4 k (fun t4 => K .ret ⟨[(4, .pv (.bool t4))], []⟩) (K (.exit 0) ⟨[], []⟩) n v.1 v.2.1 v.2.2 :=
  iter_rec (X := UX) (fun v => ⟨[(0, .pv (.typ (.li_u8 v.1))), (1, .pv (.typ (.li_u8 v.2.1))), (5, .pv (.int .i64 v.2.2))], []⟩) (fun rec v => cadastreref0_EqBytes_l4_b k (fun t4 => K .ret ⟨[(4, .pv (.bool t4))], []⟩) (K (.exit 0) ⟨[], []⟩) (fun a0 b1 i5 => rec (a0, b1, i5)) v.1 v.2.1 v.2.2) (fun n v => cadastreref0_EqBytes_l4 k (fun t4 => K .ret ⟨[(4, .pv (.bool t4))], []⟩) (K (.exit 0) ⟨[], []⟩) n v.1 v.2.1 v.2.2) (fun n v => by kernel_rfl) (fun _ => rfl) (fun _ _ => rfl)
theorem cadastreref0_EqBytes_l4_ok0 {ρ : Type} (k : Nat) : IterOK UX (cadastreref0_EqBytes_cfg (ρ := ρ) k) (cadastreref0_EqBytes_G k) (cadastreref0_EqBytes_L.getD 0 .skip) 4 (cadastreref0_EqBytes_l4_s k) := by
  intro s K r h
  obtain ⟨env, hp⟩ := s
  unfold cadastreref0_EqBytes_l4_s at h
  replace h := popS_inv h; obtain ⟨v1, e2, rfl, h⟩ := h
  replace h := as_li_u8_inv h; obtain ⟨a0, rfl, h⟩ := h
  replace h := popS_inv h; obtain ⟨v3, e4, rfl, h⟩ := h
  replace h := as_li_u8_inv h; obtain ⟨b1, rfl, h⟩ := h
  replace h := popS_inv h; obtain ⟨v5, e6, rfl, h⟩ := h
  replace h := asI_inv h; obtain ⟨i5, rfl, h⟩ := h
  replace h := popN_inv h; obtain ⟨rfl, h⟩ := h
  replace h := popN_inv h; obtain ⟨rfl, h⟩ := h
  exact ⟨k, (cadastreref0_EqBytes_l4_eq0 k K k (a0, b1, i5)).trans h⟩
theorem cadastreref0_EqBytes_cok {ρ : Type} (k : Nat) : COK (cadastreref0_EqBytes_cfg (ρ := ρ) k) (cadastreref0_EqBytes_G k) cadastreref0_EqBytes_code :=
  cok_of (tl := [(4, cadastreref0_EqBytes_l4_s k)]) (tj := []) (tb := []) rfl rfl rfl (all_nth 1 (by kernel_rfl) ⟨iter_case (by kernel_rfl) rfl (cadastreref0_EqBytes_l4_ok0 k), trivial⟩) (nil_all (by kernel_rfl)) (fun p hp => by cases hp)
noncomputable def cadastreref0_EqBytes_enc (r : Bool) : AV UU := .pv (.bool r)
noncomputable def cadastreref0_EqBytes_dec (v : AV UU) (_ : List (List (AV UU))) : Option Bool :=
asB v fun r0 =>
some r0
theorem cadastreref0_EqBytes_dec_enc (v : AV UU) (b : List (List (AV UU))) (r : Bool) (h : cadastreref0_EqBytes_dec v b = some r) : v = cadastreref0_EqBytes_enc r := by
  unfold cadastreref0_EqBytes_dec at h
  replace h := asB_inv h; obtain ⟨r0, rfl, h⟩ := h
  cases h
  rfl
theorem cadastreref0_EqBytes_eq (k : Nat) (a0 : List Int) (b1 : List Int) : bodyK UX (cadastreref0_EqBytes_cfg k) (cadastreref0_EqBytes_G k) Try.f24 [.pv (.typ (.li_u8 a0)), .pv (.typ (.li_u8 b1))] [] cadastreref0_EqBytes_dec = cadastreref0_EqBytes k a0 b1 := by kernel_rfl
theorem cadastreref0_EqBytes_con (k : Nat) (a0 : List Int) (b1 : List Int) (r : Bool) (h : cadastreref0_EqBytes k a0 b1 = some r) : Con (X := UX) Try.prog 24 [.pv (.typ (.li_u8 a0)), .pv (.typ (.li_u8 b1))] [] (cadastreref0_EqBytes_enc r) [] :=
  con_of_body xok tok Try.func24 cadastreref0_EqBytes_body (cadastreref0_EqBytes_gok k) rfl (cadastreref0_EqBytes_cok k) (of_decide_eq_true (by kernel_rfl)) cadastreref0_EqBytes_dec_enc ((cadastreref0_EqBytes_eq k a0 b1).trans h)
noncomputable def cadastreref0_EqBytes_an {ρ : Type} (k : Nat) : An UX ρ := fun args bx K =>
popA args fun v1 a2 =>
as_li_u8 v1 fun a0 =>
popA a2 fun v3 a4 =>
as_li_u8 v3 fun b1 =>
popN a4 <|
popN bx <|
(cadastreref0_EqBytes k a0 b1).bind fun r => K (cadastreref0_EqBytes_enc r) []
theorem cadastreref0_EqBytes_ok {ρ : Type} (k : Nat) : AnsOK Try.prog 24 (cadastreref0_EqBytes_an (ρ := ρ) k) := by
  intro args bx K r h
  unfold cadastreref0_EqBytes_an at h
  replace h := popA_inv h; obtain ⟨v1, a2, rfl, h⟩ := h
  replace h := as_li_u8_inv h; obtain ⟨a0, rfl, h⟩ := h
  replace h := popA_inv h; obtain ⟨v3, a4, rfl, h⟩ := h
  replace h := as_li_u8_inv h; obtain ⟨b1, rfl, h⟩ := h
  replace h := popN_inv h; obtain ⟨rfl, h⟩ := h
  replace h := popN_inv h; obtain ⟨rfl, h⟩ := h
  replace h := bind_inv h
  obtain ⟨x, hx, h⟩ := h
  exact ⟨there_of Try.func24 (by kernel_rfl) cadastreref0_EqBytes_body, _, _, h, cadastreref0_EqBytes_con k a0 b1 x hx⟩

/-! cadastre/cadastreref0.EqCells -/
noncomputable def cadastreref0_EqCells_code : Code := match Try.f31.body with | some c => c | none => .skip
theorem cadastreref0_EqCells_body : Try.f31.body = some cadastreref0_EqCells_code := by kernel_rfl
noncomputable def cadastreref0_EqCells_G {ρ : Type} (k : Nat) : Ans UX ρ := gk 24 (cadastreref0_EqBytes_an k) (gnil)
theorem cadastreref0_EqCells_gok {ρ : Type} (k : Nat) : GOK Try.prog (cadastreref0_EqCells_G (ρ := ρ) k) := gok_cons (cadastreref0_EqBytes_ok k) (gok_nil)
noncomputable def cadastreref0_EqCells_l4_s {ρ : Type} (k : Nat) : Run UX ρ := fun s K =>
popS 0 s.env fun v1 e2 =>
as_lli_u8 v1 fun a0 =>
popS 1 e2 fun v3 e4 =>
as_lli_u8 v3 fun b1 =>
popS 5 e4 fun v5 e6 =>
asI .i64 v5 fun i5 =>
popN e6 <|
popN s.hp <|
cadastreref0_EqCells_l4 k (fun t4 => K .ret ⟨[(4, .pv (.bool t4))], []⟩) (K (.exit 0) ⟨[], []⟩) k a0 b1 i5
noncomputable def cadastreref0_EqCells_cfg {ρ : Type} (k : Nat) : Cfg UX ρ where
  live i := (assoc [(0, [0, 1]), (1, [0, 1]), (2, []), (3, [0, 1]), (4, [0, 1, 5]), (5, [0, 1, 5]), (6, [0, 1, 5]), (7, []), (8, [])] i).getD []
  boxes i := (assoc [(0, []), (1, []), (2, []), (3, []), (4, []), (5, []), (6, []), (7, []), (8, [])] i).getD []
  tk i := (assoc [] i).getD []
  n := 27
  labelR l := (assoc [] l).getD 0
  loops := assoc [(4, cadastreref0_EqCells_l4_s k)]
  labels := assoc []
  joins := assoc []
  xl i e := match e with
    | .nxt => assoc [] i
    | .ret => assoc [(4, ([4], []))] i
    | .exit j => (assoc [(4, [(0, ([], []))])] i).bind fun l => assoc l j
    | .goto j => (assoc [] i).bind fun l => assoc l j
noncomputable def cadastreref0_EqCells_L : List Code := selI [4] (loopsOf cadastreref0_EqCells_code)
noncomputable def cadastreref0_EqCells_J : List Code := selI [] (joinsOf cadastreref0_EqCells_code)
noncomputable def cadastreref0_EqCells_S : List Code := scopesOf cadastreref0_EqCells_code
theorem cadastreref0_EqCells_l4_eq0 {ρ : Type} (k : Nat) (K : Ex → St UU → Option ρ) : ∀ (n : Nat) (v : (List (List Int)) × (List (List Int)) × Int), iterK UX (fun s => s.at (cadastreref0_EqCells_cfg (ρ := ρ) k).live (cadastreref0_EqCells_cfg (ρ := ρ) k).boxes (some 4)) (exec UX (cadastreref0_EqCells_cfg k) (cadastreref0_EqCells_G k) (cadastreref0_EqCells_L.getD 0 .skip)) n ⟨[(0, .pv (.typ (.lli_u8 v.1))), (1, .pv (.typ (.lli_u8 v.2.1))), (5, .pv (.int .i64 v.2.2))], []⟩ (nrmK UX (cadastreref0_EqCells_cfg k) 4 K) = cadastreref0_EqCells_l4 k (fun t4 => K .ret ⟨[(4, .pv (.bool t4))], []⟩) (K (.exit 0) ⟨[], []⟩) n v.1 v.2.1 v.2.2 :=
  iter_rec (X := UX) (fun v => ⟨[(0, .pv (.typ (.lli_u8 v.1))), (1, .pv (.typ (.lli_u8 v.2.1))), (5, .pv (.int .i64 v.2.2))], []⟩) (fun rec v => cadastreref0_EqCells_l4_b k (fun t4 => K .ret ⟨[(4, .pv (.bool t4))], []⟩) (K (.exit 0) ⟨[], []⟩) (fun a0 b1 i5 => rec (a0, b1, i5)) v.1 v.2.1 v.2.2) (fun n v => cadastreref0_EqCells_l4 k (fun t4 => K .ret ⟨[(4, .pv (.bool t4))], []⟩) (K (.exit 0) ⟨[], []⟩) n v.1 v.2.1 v.2.2) (fun n v => by kernel_rfl) (fun _ => rfl) (fun _ _ => rfl)
theorem cadastreref0_EqCells_l4_ok0 {ρ : Type} (k : Nat) : IterOK UX (cadastreref0_EqCells_cfg (ρ := ρ) k) (cadastreref0_EqCells_G k) (cadastreref0_EqCells_L.getD 0 .skip) 4 (cadastreref0_EqCells_l4_s k) := by
  intro s K r h
  obtain ⟨env, hp⟩ := s
  unfold cadastreref0_EqCells_l4_s at h
  replace h := popS_inv h; obtain ⟨v1, e2, rfl, h⟩ := h
  replace h := as_lli_u8_inv h; obtain ⟨a0, rfl, h⟩ := h
  replace h := popS_inv h; obtain ⟨v3, e4, rfl, h⟩ := h
  replace h := as_lli_u8_inv h; obtain ⟨b1, rfl, h⟩ := h
  replace h := popS_inv h; obtain ⟨v5, e6, rfl, h⟩ := h
  replace h := asI_inv h; obtain ⟨i5, rfl, h⟩ := h
  replace h := popN_inv h; obtain ⟨rfl, h⟩ := h
  replace h := popN_inv h; obtain ⟨rfl, h⟩ := h
  exact ⟨k, (cadastreref0_EqCells_l4_eq0 k K k (a0, b1, i5)).trans h⟩
theorem cadastreref0_EqCells_cok {ρ : Type} (k : Nat) : COK (cadastreref0_EqCells_cfg (ρ := ρ) k) (cadastreref0_EqCells_G k) cadastreref0_EqCells_code :=
  cok_of (tl := [(4, cadastreref0_EqCells_l4_s k)]) (tj := []) (tb := []) rfl rfl rfl (all_nth 1 (by kernel_rfl) ⟨iter_case (by kernel_rfl) rfl (cadastreref0_EqCells_l4_ok0 k), trivial⟩) (nil_all (by kernel_rfl)) (fun p hp => by cases hp)
noncomputable def cadastreref0_EqCells_enc (r : Bool) : AV UU := .pv (.bool r)
noncomputable def cadastreref0_EqCells_dec (v : AV UU) (_ : List (List (AV UU))) : Option Bool :=
asB v fun r0 =>
some r0
theorem cadastreref0_EqCells_dec_enc (v : AV UU) (b : List (List (AV UU))) (r : Bool) (h : cadastreref0_EqCells_dec v b = some r) : v = cadastreref0_EqCells_enc r := by
  unfold cadastreref0_EqCells_dec at h
  replace h := asB_inv h; obtain ⟨r0, rfl, h⟩ := h
  cases h
  rfl
theorem cadastreref0_EqCells_eq (k : Nat) (a0 : List (List Int)) (b1 : List (List Int)) : bodyK UX (cadastreref0_EqCells_cfg k) (cadastreref0_EqCells_G k) Try.f31 [.pv (.typ (.lli_u8 a0)), .pv (.typ (.lli_u8 b1))] [] cadastreref0_EqCells_dec = cadastreref0_EqCells k a0 b1 := by kernel_rfl
theorem cadastreref0_EqCells_con (k : Nat) (a0 : List (List Int)) (b1 : List (List Int)) (r : Bool) (h : cadastreref0_EqCells k a0 b1 = some r) : Con (X := UX) Try.prog 31 [.pv (.typ (.lli_u8 a0)), .pv (.typ (.lli_u8 b1))] [] (cadastreref0_EqCells_enc r) [] :=
  con_of_body xok tok Try.func31 cadastreref0_EqCells_body (cadastreref0_EqCells_gok k) rfl (cadastreref0_EqCells_cok k) (of_decide_eq_true (by kernel_rfl)) cadastreref0_EqCells_dec_enc ((cadastreref0_EqCells_eq k a0 b1).trans h)
noncomputable def cadastreref0_EqCells_an {ρ : Type} (k : Nat) : An UX ρ := fun args bx K =>
popA args fun v1 a2 =>
as_lli_u8 v1 fun a0 =>
popA a2 fun v3 a4 =>
as_lli_u8 v3 fun b1 =>
popN a4 <|
popN bx <|
(cadastreref0_EqCells k a0 b1).bind fun r => K (cadastreref0_EqCells_enc r) []
theorem cadastreref0_EqCells_ok {ρ : Type} (k : Nat) : AnsOK Try.prog 31 (cadastreref0_EqCells_an (ρ := ρ) k) := by
  intro args bx K r h
  unfold cadastreref0_EqCells_an at h
  replace h := popA_inv h; obtain ⟨v1, a2, rfl, h⟩ := h
  replace h := as_lli_u8_inv h; obtain ⟨a0, rfl, h⟩ := h
  replace h := popA_inv h; obtain ⟨v3, a4, rfl, h⟩ := h
  replace h := as_lli_u8_inv h; obtain ⟨b1, rfl, h⟩ := h
  replace h := popN_inv h; obtain ⟨rfl, h⟩ := h
  replace h := popN_inv h; obtain ⟨rfl, h⟩ := h
  replace h := bind_inv h
  obtain ⟨x, hx, h⟩ := h
  exact ⟨there_of Try.func31 (by kernel_rfl) cadastreref0_EqCells_body, _, _, h, cadastreref0_EqCells_con k a0 b1 x hx⟩

/-! cadastre/varint.turned -/
noncomputable def varint_turned_o0_code : Code := match Try.f70.body with | some c => c | none => .skip
theorem varint_turned_o0_body : Try.f70.body = some varint_turned_o0_code := by kernel_rfl
noncomputable def varint_turned_o0_G {ρ : Type} (k : Nat) : Ans UX ρ := gnil
theorem varint_turned_o0_gok {ρ : Type} (k : Nat) : GOK Try.prog (varint_turned_o0_G (ρ := ρ) k) := gok_nil
noncomputable def varint_turned_o0_j2_s {ρ : Type} (k : Nat) : Run UX ρ := fun s K =>
popS 0 s.env fun v1 e2 =>
asO_li_u8 v1 fun b0 =>
popS 3 e2 fun v3 e4 =>
asI .i64 v3 fun i3 =>
popS 4 e4 fun v5 e6 =>
asI .i64 v5 fun k4 =>
popN e6 <|
popN s.hp <|
varint_turned_o0_j2 k (fun b0 i3 k4 => K (.goto 0) ⟨[(0, .own (.li_u8 b0)), (3, .pv (.int .i64 i3)), (4, .pv (.int .i64 k4))], []⟩) (fun t2 => K .ret ⟨[(2, .own (.li_u8 t2))], []⟩) b0 i3 k4
noncomputable def varint_turned_o0_g0_s {ρ : Type} (k : Nat) : Run UX ρ := fun s K =>
popS 0 s.env fun v1 e2 =>
asO_li_u8 v1 fun b0 =>
popS 3 e2 fun v3 e4 =>
asI .i64 v3 fun i3 =>
popS 4 e4 fun v5 e6 =>
asI .i64 v5 fun k4 =>
popN e6 <|
popN s.hp <|
varint_turned_o0_g0 k (fun t2 => K .ret ⟨[(2, .own (.li_u8 t2))], []⟩) k b0 i3 k4
noncomputable def varint_turned_o0_cfg {ρ : Type} (k : Nat) : Cfg UX ρ where
  live i := (assoc [(0, [0]), (1, [0]), (2, [0, 3, 4]), (3, [0, 3, 4]), (4, [0, 3, 4]), (5, [0, 3, 4]), (6, [0])] i).getD []
  boxes i := (assoc [(0, []), (1, []), (2, []), (3, []), (4, []), (5, []), (6, [])] i).getD []
  tk i := (assoc [(1000000, [2])] i).getD []
  n := 30
  labelR l := (assoc [(0, 2)] l).getD 0
  loops := assoc []
  labels := assoc [(0, varint_turned_o0_g0_s k)]
  joins := assoc [(2, varint_turned_o0_j2_s k)]
  xl i e := match e with
    | .nxt => assoc [] i
    | .ret => assoc [(2, ([2], [])), (2, ([2], []))] i
    | .exit j => (assoc [] i).bind fun l => assoc l j
    | .goto j => (assoc [(2, [(0, ([0, 3, 4], []))])] i).bind fun l => assoc l j
noncomputable def varint_turned_o0_L : List Code := selI [] (loopsOf varint_turned_o0_code)
noncomputable def varint_turned_o0_J : List Code := selI [2] (joinsOf varint_turned_o0_code)
noncomputable def varint_turned_o0_S : List Code := scopesOf varint_turned_o0_code
theorem varint_turned_o0_j2_eq0 {ρ : Type} (k : Nat) (K : Ex → St UU → Option ρ) (b0 : List Int) (i3 : Int) (k4 : Int) : exec UX (varint_turned_o0_cfg k) (varint_turned_o0_G k) (varint_turned_o0_J.getD 0 .skip) ⟨[(0, .own (.li_u8 b0)), (3, .pv (.int .i64 i3)), (4, .pv (.int .i64 k4))], []⟩ (nrmK UX (varint_turned_o0_cfg k) 2 K) = varint_turned_o0_j2 k (fun b0 i3 k4 => K (.goto 0) ⟨[(0, .own (.li_u8 b0)), (3, .pv (.int .i64 i3)), (4, .pv (.int .i64 k4))], []⟩) (fun t2 => K .ret ⟨[(2, .own (.li_u8 t2))], []⟩) b0 i3 k4 := by kernel_rfl
theorem varint_turned_o0_j2_ok0 {ρ : Type} (k : Nat) : JoinOK UX (varint_turned_o0_cfg (ρ := ρ) k) (varint_turned_o0_G k) (varint_turned_o0_J.getD 0 .skip) 2 (varint_turned_o0_j2_s k) := by
  intro s K r h
  obtain ⟨env, hp⟩ := s
  unfold varint_turned_o0_j2_s at h
  replace h := popS_inv h; obtain ⟨v1, e2, rfl, h⟩ := h
  replace h := asO_li_u8_inv h; obtain ⟨b0, rfl, h⟩ := h
  replace h := popS_inv h; obtain ⟨v3, e4, rfl, h⟩ := h
  replace h := asI_inv h; obtain ⟨i3, rfl, h⟩ := h
  replace h := popS_inv h; obtain ⟨v5, e6, rfl, h⟩ := h
  replace h := asI_inv h; obtain ⟨k4, rfl, h⟩ := h
  replace h := popN_inv h; obtain ⟨rfl, h⟩ := h
  replace h := popN_inv h; obtain ⟨rfl, h⟩ := h
  exact (varint_turned_o0_j2_eq0 k K b0 i3 k4).trans h
noncomputable def varint_turned_o0_g0_f0 {ρ : Type} (k : Nat) : Run UX ρ := (suff UX (varint_turned_o0_cfg k) (varint_turned_o0_G k) (varint_turned_o0_S.getD 0 .skip) 0).getD fun _ _ => none
theorem varint_turned_o0_g0_eq0 {ρ : Type} (k : Nat) (K : Ex → St UU → Option ρ) : ∀ (n : Nat) (v : (List Int) × Int × Int), scopeN UX (fun l s => s.at (varint_turned_o0_cfg (ρ := ρ) k).live (varint_turned_o0_cfg (ρ := ρ) k).boxes (some ((varint_turned_o0_cfg (ρ := ρ) k).labelR l))) (suff UX (varint_turned_o0_cfg k) (varint_turned_o0_G k) (varint_turned_o0_S.getD 0 .skip)) (fun l => ((varint_turned_o0_cfg (ρ := ρ) k).labels l).isSome) n (varint_turned_o0_g0_f0 k) ⟨[(0, .own (.li_u8 v.1)), (3, .pv (.int .i64 v.2.1)), (4, .pv (.int .i64 v.2.2))], []⟩ (nrmK UX (varint_turned_o0_cfg k) ((varint_turned_o0_cfg (ρ := ρ) k).labelR 0) K) = varint_turned_o0_g0 k (fun t2 => K .ret ⟨[(2, .own (.li_u8 t2))], []⟩) n v.1 v.2.1 v.2.2 :=
  scope_rec (X := UX) (fun _ => varint_turned_o0_g0_f0 k) (fun v => ⟨[(0, .own (.li_u8 v.1)), (3, .pv (.int .i64 v.2.1)), (4, .pv (.int .i64 v.2.2))], []⟩) (fun rec v => varint_turned_o0_g0_b k (fun t2 => K .ret ⟨[(2, .own (.li_u8 t2))], []⟩) (fun b0 i3 k4 => rec (b0, i3, k4)) v.1 v.2.1 v.2.2) (fun n v => varint_turned_o0_g0 k (fun t2 => K .ret ⟨[(2, .own (.li_u8 t2))], []⟩) n v.1 v.2.1 v.2.2) (fun n v => by kernel_rfl) (fun _ => rfl) (fun _ _ => rfl)
theorem varint_turned_o0_g0_ok0 {ρ : Type} (k : Nat) : LabOK UX (varint_turned_o0_cfg (ρ := ρ) k) (varint_turned_o0_G k) (varint_turned_o0_S.getD 0 .skip) 0 (varint_turned_o0_g0_s k) := by
  intro f hf s K r h
  have hf : varint_turned_o0_g0_f0 k = f := by unfold varint_turned_o0_g0_f0; rw [hf]; rfl
  subst hf
  obtain ⟨env, hp⟩ := s
  unfold varint_turned_o0_g0_s at h
  replace h := popS_inv h; obtain ⟨v1, e2, rfl, h⟩ := h
  replace h := asO_li_u8_inv h; obtain ⟨b0, rfl, h⟩ := h
  replace h := popS_inv h; obtain ⟨v3, e4, rfl, h⟩ := h
  replace h := asI_inv h; obtain ⟨i3, rfl, h⟩ := h
  replace h := popS_inv h; obtain ⟨v5, e6, rfl, h⟩ := h
  replace h := asI_inv h; obtain ⟨k4, rfl, h⟩ := h
  replace h := popN_inv h; obtain ⟨rfl, h⟩ := h
  replace h := popN_inv h; obtain ⟨rfl, h⟩ := h
  exact ⟨k, (varint_turned_o0_g0_eq0 k K k (b0, i3, k4)).trans h⟩
theorem varint_turned_o0_cok {ρ : Type} (k : Nat) : COK (varint_turned_o0_cfg (ρ := ρ) k) (varint_turned_o0_G k) varint_turned_o0_code :=
  cok_of (tl := []) (tj := [(2, varint_turned_o0_j2_s k)]) (tb := [(0, varint_turned_o0_g0_s k)]) rfl rfl rfl (nil_all (by kernel_rfl)) (all_nth 1 (by kernel_rfl) ⟨join_case (by kernel_rfl) rfl (varint_turned_o0_j2_ok0 k), trivial⟩) (fun p hp => by
    simp only [List.mem_cons, List.not_mem_nil, or_false] at hp
    subst hp
    · exact all_nth 1 (by kernel_rfl) ⟨varint_turned_o0_g0_ok0 k, trivial⟩)
noncomputable def varint_turned_o0_enc (r : (List Int)) : AV UU := .own (.li_u8 r)
noncomputable def varint_turned_o0_dec (v : AV UU) (_ : List (List (AV UU))) : Option (List Int) :=
asO_li_u8 v fun r =>
some r
theorem varint_turned_o0_dec_enc (v : AV UU) (b : List (List (AV UU))) (r : (List Int)) (h : varint_turned_o0_dec v b = some r) : v = varint_turned_o0_enc r := by
  unfold varint_turned_o0_dec at h
  replace h := asO_li_u8_inv h; obtain ⟨r, rfl, h⟩ := h
  cases h
  rfl
theorem varint_turned_o0_eq (k : Nat) (b0 : List Int) : bodyK UX (varint_turned_o0_cfg k) (varint_turned_o0_G k) Try.f70 [.own (.li_u8 b0)] [] varint_turned_o0_dec = varint_turned_o0 k b0 := by kernel_rfl
theorem varint_turned_o0_con (k : Nat) (b0 : List Int) (r : (List Int)) (h : varint_turned_o0 k b0 = some r) : Con (X := UX) Try.prog 70 [.own (.li_u8 b0)] [] (varint_turned_o0_enc r) [] :=
  con_of_body xok tok Try.func70 varint_turned_o0_body (varint_turned_o0_gok k) rfl (varint_turned_o0_cok k) (of_decide_eq_true (by kernel_rfl)) varint_turned_o0_dec_enc ((varint_turned_o0_eq k b0).trans h)
noncomputable def varint_turned_o0_an {ρ : Type} (k : Nat) : An UX ρ := fun args bx K =>
popA args fun v1 a2 =>
asO_li_u8 v1 fun b0 =>
popN a2 <|
popN bx <|
(varint_turned_o0 k b0).bind fun r => K (varint_turned_o0_enc r) []
theorem varint_turned_o0_ok {ρ : Type} (k : Nat) : AnsOK Try.prog 70 (varint_turned_o0_an (ρ := ρ) k) := by
  intro args bx K r h
  unfold varint_turned_o0_an at h
  replace h := popA_inv h; obtain ⟨v1, a2, rfl, h⟩ := h
  replace h := asO_li_u8_inv h; obtain ⟨b0, rfl, h⟩ := h
  replace h := popN_inv h; obtain ⟨rfl, h⟩ := h
  replace h := popN_inv h; obtain ⟨rfl, h⟩ := h
  replace h := bind_inv h
  obtain ⟨x, hx, h⟩ := h
  exact ⟨there_of Try.func70 (by kernel_rfl) varint_turned_o0_body, _, _, h, varint_turned_o0_con k b0 x hx⟩

/-! cadastre/varint.Put -/
noncomputable def varint_Put_code : Code := match Try.f50.body with | some c => c | none => .skip
theorem varint_Put_body : Try.f50.body = some varint_Put_code := by kernel_rfl
noncomputable def varint_Put_G {ρ : Type} (k : Nat) : Ans UX ρ := gk 70 (varint_turned_o0_an k) (gnil)
theorem varint_Put_gok {ρ : Type} (k : Nat) : GOK Try.prog (varint_Put_G (ρ := ρ) k) := gok_cons (varint_turned_o0_ok k) (gok_nil)
noncomputable def varint_Put_l6_s {ρ : Type} (k : Nat) : Run UX ρ := fun s K =>
popS 0 s.env fun v1 e2 =>
asI .u64 v1 fun n0 =>
popS 2 e2 fun v3 e4 =>
asO_li_u8 v3 fun b2 =>
popS 13 e4 fun v5 e6 =>
asI .i64 v5 fun t13 =>
popN e6 <|
popN s.hp <|
varint_Put_l6 k (fun b2 => K (.exit 0) ⟨[(2, .own (.li_u8 b2))], []⟩) k n0 b2 t13
noncomputable def varint_Put_j11_s {ρ : Type} (k : Nat) : Run UX ρ := fun s K =>
popS 0 s.env fun v1 e2 =>
asI .u64 v1 fun n0 =>
popS 2 e2 fun v3 e4 =>
asO_li_u8 v3 fun b2 =>
popS 3 e4 fun v5 e6 =>
asI .u8 v5 fun low3 =>
popN e6 <|
popN s.hp <|
varint_Put_j11 k (fun n0 b2 low3 => K (.goto 0) ⟨[(0, .pv (.int .u64 n0)), (2, .own (.li_u8 b2)), (3, .pv (.int .u8 low3))], []⟩) (fun b2 => K .ret ⟨[(2, .own (.li_u8 b2))], []⟩) n0 b2 low3
noncomputable def varint_Put_g0_s {ρ : Type} (k : Nat) : Run UX ρ := fun s K =>
popS 0 s.env fun v1 e2 =>
asI .u64 v1 fun n0 =>
popS 2 e2 fun v3 e4 =>
asO_li_u8 v3 fun b2 =>
popS 3 e4 fun v5 e6 =>
asI .u8 v5 fun low3 =>
popN e6 <|
popN s.hp <|
varint_Put_g0 k (fun b2 => K .ret ⟨[(2, .own (.li_u8 b2))], []⟩) k n0 b2 low3
noncomputable def varint_Put_cfg {ρ : Type} (k : Nat) : Cfg UX ρ where
  live i := (assoc [(0, [0]), (1, [0, 2]), (2, [0, 2, 3]), (3, [0, 2]), (4, [0, 2]), (5, [0, 2]), (6, [0, 2, 13]), (7, [0, 2, 13]), (8, [0, 2, 13]), (9, [0, 2, 13]), (10, [2]), (11, [0, 2, 3]), (12, [0, 2]), (13, [0, 2]), (14, [0, 2, 3]), (15, [2])] i).getD []
  boxes i := (assoc [(0, []), (1, []), (2, []), (3, []), (4, []), (5, []), (6, []), (7, []), (8, []), (9, []), (10, []), (11, []), (12, []), (13, []), (14, []), (15, [])] i).getD []
  tk i := (assoc [(70, [0]), (1000000, [2])] i).getD []
  n := 40
  labelR l := (assoc [(0, 11)] l).getD 0
  loops := assoc [(6, varint_Put_l6_s k)]
  labels := assoc [(0, varint_Put_g0_s k)]
  joins := assoc [(11, varint_Put_j11_s k)]
  xl i e := match e with
    | .nxt => assoc [] i
    | .ret => assoc [(11, ([2], [])), (11, ([2], []))] i
    | .exit j => (assoc [(6, [(0, ([2], []))])] i).bind fun l => assoc l j
    | .goto j => (assoc [(11, [(0, ([0, 2, 3], []))])] i).bind fun l => assoc l j
noncomputable def varint_Put_L : List Code := selI [6] (loopsOf varint_Put_code)
noncomputable def varint_Put_J : List Code := selI [11] (joinsOf varint_Put_code)
noncomputable def varint_Put_S : List Code := scopesOf varint_Put_code
theorem varint_Put_l6_eq0 {ρ : Type} (k : Nat) (K : Ex → St UU → Option ρ) : ∀ (n : Nat) (v : Int × (List Int) × Int), iterK UX (fun s => s.at (varint_Put_cfg (ρ := ρ) k).live (varint_Put_cfg (ρ := ρ) k).boxes (some 6)) (exec UX (varint_Put_cfg k) (varint_Put_G k) (varint_Put_L.getD 0 .skip)) n ⟨[(0, .pv (.int .u64 v.1)), (2, .own (.li_u8 v.2.1)), (13, .pv (.int .i64 v.2.2))], []⟩ (nrmK UX (varint_Put_cfg k) 6 K) = varint_Put_l6 k (fun b2 => K (.exit 0) ⟨[(2, .own (.li_u8 b2))], []⟩) n v.1 v.2.1 v.2.2 :=
  iter_rec (X := UX) (fun v => ⟨[(0, .pv (.int .u64 v.1)), (2, .own (.li_u8 v.2.1)), (13, .pv (.int .i64 v.2.2))], []⟩) (fun rec v => varint_Put_l6_b k (fun b2 => K (.exit 0) ⟨[(2, .own (.li_u8 b2))], []⟩) (fun n0 b2 t13 => rec (n0, b2, t13)) v.1 v.2.1 v.2.2) (fun n v => varint_Put_l6 k (fun b2 => K (.exit 0) ⟨[(2, .own (.li_u8 b2))], []⟩) n v.1 v.2.1 v.2.2) (fun n v => by kernel_rfl) (fun _ => rfl) (fun _ _ => rfl)
theorem varint_Put_l6_ok0 {ρ : Type} (k : Nat) : IterOK UX (varint_Put_cfg (ρ := ρ) k) (varint_Put_G k) (varint_Put_L.getD 0 .skip) 6 (varint_Put_l6_s k) := by
  intro s K r h
  obtain ⟨env, hp⟩ := s
  unfold varint_Put_l6_s at h
  replace h := popS_inv h; obtain ⟨v1, e2, rfl, h⟩ := h
  replace h := asI_inv h; obtain ⟨n0, rfl, h⟩ := h
  replace h := popS_inv h; obtain ⟨v3, e4, rfl, h⟩ := h
  replace h := asO_li_u8_inv h; obtain ⟨b2, rfl, h⟩ := h
  replace h := popS_inv h; obtain ⟨v5, e6, rfl, h⟩ := h
  replace h := asI_inv h; obtain ⟨t13, rfl, h⟩ := h
  replace h := popN_inv h; obtain ⟨rfl, h⟩ := h
  replace h := popN_inv h; obtain ⟨rfl, h⟩ := h
  exact ⟨k, (varint_Put_l6_eq0 k K k (n0, b2, t13)).trans h⟩
theorem varint_Put_j11_eq0 {ρ : Type} (k : Nat) (K : Ex → St UU → Option ρ) (n0 : Int) (b2 : List Int) (low3 : Int) : exec UX (varint_Put_cfg k) (varint_Put_G k) (varint_Put_J.getD 0 .skip) ⟨[(0, .pv (.int .u64 n0)), (2, .own (.li_u8 b2)), (3, .pv (.int .u8 low3))], []⟩ (nrmK UX (varint_Put_cfg k) 11 K) = varint_Put_j11 k (fun n0 b2 low3 => K (.goto 0) ⟨[(0, .pv (.int .u64 n0)), (2, .own (.li_u8 b2)), (3, .pv (.int .u8 low3))], []⟩) (fun b2 => K .ret ⟨[(2, .own (.li_u8 b2))], []⟩) n0 b2 low3 := by kernel_rfl
theorem varint_Put_j11_ok0 {ρ : Type} (k : Nat) : JoinOK UX (varint_Put_cfg (ρ := ρ) k) (varint_Put_G k) (varint_Put_J.getD 0 .skip) 11 (varint_Put_j11_s k) := by
  intro s K r h
  obtain ⟨env, hp⟩ := s
  unfold varint_Put_j11_s at h
  replace h := popS_inv h; obtain ⟨v1, e2, rfl, h⟩ := h
  replace h := asI_inv h; obtain ⟨n0, rfl, h⟩ := h
  replace h := popS_inv h; obtain ⟨v3, e4, rfl, h⟩ := h
  replace h := asO_li_u8_inv h; obtain ⟨b2, rfl, h⟩ := h
  replace h := popS_inv h; obtain ⟨v5, e6, rfl, h⟩ := h
  replace h := asI_inv h; obtain ⟨low3, rfl, h⟩ := h
  replace h := popN_inv h; obtain ⟨rfl, h⟩ := h
  replace h := popN_inv h; obtain ⟨rfl, h⟩ := h
  exact (varint_Put_j11_eq0 k K n0 b2 low3).trans h
noncomputable def varint_Put_g0_f0 {ρ : Type} (k : Nat) : Run UX ρ := (suff UX (varint_Put_cfg k) (varint_Put_G k) (varint_Put_S.getD 0 .skip) 0).getD fun _ _ => none
theorem varint_Put_g0_eq0 {ρ : Type} (k : Nat) (K : Ex → St UU → Option ρ) : ∀ (n : Nat) (v : Int × (List Int) × Int), scopeN UX (fun l s => s.at (varint_Put_cfg (ρ := ρ) k).live (varint_Put_cfg (ρ := ρ) k).boxes (some ((varint_Put_cfg (ρ := ρ) k).labelR l))) (suff UX (varint_Put_cfg k) (varint_Put_G k) (varint_Put_S.getD 0 .skip)) (fun l => ((varint_Put_cfg (ρ := ρ) k).labels l).isSome) n (varint_Put_g0_f0 k) ⟨[(0, .pv (.int .u64 v.1)), (2, .own (.li_u8 v.2.1)), (3, .pv (.int .u8 v.2.2))], []⟩ (nrmK UX (varint_Put_cfg k) ((varint_Put_cfg (ρ := ρ) k).labelR 0) K) = varint_Put_g0 k (fun b2 => K .ret ⟨[(2, .own (.li_u8 b2))], []⟩) n v.1 v.2.1 v.2.2 :=
  scope_rec (X := UX) (fun _ => varint_Put_g0_f0 k) (fun v => ⟨[(0, .pv (.int .u64 v.1)), (2, .own (.li_u8 v.2.1)), (3, .pv (.int .u8 v.2.2))], []⟩) (fun rec v => varint_Put_g0_b k (fun b2 => K .ret ⟨[(2, .own (.li_u8 b2))], []⟩) (fun n0 b2 low3 => rec (n0, b2, low3)) v.1 v.2.1 v.2.2) (fun n v => varint_Put_g0 k (fun b2 => K .ret ⟨[(2, .own (.li_u8 b2))], []⟩) n v.1 v.2.1 v.2.2) (fun n v => by kernel_rfl) (fun _ => rfl) (fun _ _ => rfl)
theorem varint_Put_g0_ok0 {ρ : Type} (k : Nat) : LabOK UX (varint_Put_cfg (ρ := ρ) k) (varint_Put_G k) (varint_Put_S.getD 0 .skip) 0 (varint_Put_g0_s k) := by
  intro f hf s K r h
  have hf : varint_Put_g0_f0 k = f := by unfold varint_Put_g0_f0; rw [hf]; rfl
  subst hf
  obtain ⟨env, hp⟩ := s
  unfold varint_Put_g0_s at h
  replace h := popS_inv h; obtain ⟨v1, e2, rfl, h⟩ := h
  replace h := asI_inv h; obtain ⟨n0, rfl, h⟩ := h
  replace h := popS_inv h; obtain ⟨v3, e4, rfl, h⟩ := h
  replace h := asO_li_u8_inv h; obtain ⟨b2, rfl, h⟩ := h
  replace h := popS_inv h; obtain ⟨v5, e6, rfl, h⟩ := h
  replace h := asI_inv h; obtain ⟨low3, rfl, h⟩ := h
  replace h := popN_inv h; obtain ⟨rfl, h⟩ := h
  replace h := popN_inv h; obtain ⟨rfl, h⟩ := h
  exact ⟨k, (varint_Put_g0_eq0 k K k (n0, b2, low3)).trans h⟩
theorem varint_Put_cok {ρ : Type} (k : Nat) : COK (varint_Put_cfg (ρ := ρ) k) (varint_Put_G k) varint_Put_code :=
  cok_of (tl := [(6, varint_Put_l6_s k)]) (tj := [(11, varint_Put_j11_s k)]) (tb := [(0, varint_Put_g0_s k)]) rfl rfl rfl (all_nth 1 (by kernel_rfl) ⟨iter_case (by kernel_rfl) rfl (varint_Put_l6_ok0 k), trivial⟩) (all_nth 1 (by kernel_rfl) ⟨join_case (by kernel_rfl) rfl (varint_Put_j11_ok0 k), trivial⟩) (fun p hp => by
    simp only [List.mem_cons, List.not_mem_nil, or_false] at hp
    subst hp
    · exact all_nth 1 (by kernel_rfl) ⟨varint_Put_g0_ok0 k, trivial⟩)
noncomputable def varint_Put_enc (r : (List Int)) : AV UU := .own (.li_u8 r)
noncomputable def varint_Put_dec (v : AV UU) (_ : List (List (AV UU))) : Option (List Int) :=
asO_li_u8 v fun r =>
some r
theorem varint_Put_dec_enc (v : AV UU) (b : List (List (AV UU))) (r : (List Int)) (h : varint_Put_dec v b = some r) : v = varint_Put_enc r := by
  unfold varint_Put_dec at h
  replace h := asO_li_u8_inv h; obtain ⟨r, rfl, h⟩ := h
  cases h
  rfl
theorem varint_Put_eq (k : Nat) (n0 : Int) : bodyK UX (varint_Put_cfg k) (varint_Put_G k) Try.f50 [.pv (.int .u64 n0)] [] varint_Put_dec = varint_Put k n0 := by kernel_rfl
theorem varint_Put_con (k : Nat) (n0 : Int) (r : (List Int)) (h : varint_Put k n0 = some r) : Con (X := UX) Try.prog 50 [.pv (.int .u64 n0)] [] (varint_Put_enc r) [] :=
  con_of_body xok tok Try.func50 varint_Put_body (varint_Put_gok k) rfl (varint_Put_cok k) (of_decide_eq_true (by kernel_rfl)) varint_Put_dec_enc ((varint_Put_eq k n0).trans h)
noncomputable def varint_Put_an {ρ : Type} (k : Nat) : An UX ρ := fun args bx K =>
popA args fun v1 a2 =>
asI .u64 v1 fun n0 =>
popN a2 <|
popN bx <|
(varint_Put k n0).bind fun r => K (varint_Put_enc r) []
theorem varint_Put_ok {ρ : Type} (k : Nat) : AnsOK Try.prog 50 (varint_Put_an (ρ := ρ) k) := by
  intro args bx K r h
  unfold varint_Put_an at h
  replace h := popA_inv h; obtain ⟨v1, a2, rfl, h⟩ := h
  replace h := asI_inv h; obtain ⟨n0, rfl, h⟩ := h
  replace h := popN_inv h; obtain ⟨rfl, h⟩ := h
  replace h := popN_inv h; obtain ⟨rfl, h⟩ := h
  replace h := bind_inv h
  obtain ⟨x, hx, h⟩ := h
  exact ⟨there_of Try.func50 (by kernel_rfl) varint_Put_body, _, _, h, varint_Put_con k n0 x hx⟩
end Go.Proofs.Ytekjibpkkgldgaa.M
