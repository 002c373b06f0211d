/-
  What the program's functions answer: the printed functions' answers.
-/
import Derived.Test.YtekjibpkkgldgaaXG3
namespace Go.Proofs.Ytekjibpkkgldgaa.X
open Go Go.AX
/-! cadastre/cadastreref19.Tokens -/
noncomputable def cadastreref19_Tokens_code : Code := match Try.f38.body with | some c => c | none => .skip
theorem cadastreref19_Tokens_body : Try.f38.body = some cadastreref19_Tokens_code := by kernel_rfl
noncomputable def cadastreref19_Tokens_G {ρ : Type} (k : Nat) : Ans UX ρ := gk 65 (cadastreref19_Blank_an k) (gk 66 (cadastreref19_token_an k) (gnil))
theorem cadastreref19_Tokens_gok {ρ : Type} (k : Nat) : GOK Try.prog (cadastreref19_Tokens_G (ρ := ρ) k) := gok_cons (cadastreref19_Blank_ok k) (gok_cons (cadastreref19_token_ok k) (gok_nil))
noncomputable def cadastreref19_Tokens_l10_s {ρ : Type} (k : Nat) : Run UX ρ := fun s K =>
popS 0 s.env fun v1 e2 =>
asS v1 fun s0 =>
popS 4 e2 fun v3 e4 =>
asO_l68 v3 fun l4 =>
popS 5 e4 fun v5 e6 =>
asB v5 fun long5 =>
popS 6 e6 fun v7 e8 =>
asI .i64 v7 fun at6 =>
popN e8 <|
popN s.hp <|
cadastreref19_Tokens_l10 k (fun s0 l4 long5 at6 => K (.exit 2) ⟨[(0, .pv (.str s0)), (4, .own (.l68 l4)), (5, .pv (.bool long5)), (6, .pv (.int .i64 at6))], []⟩) k s0 l4 long5 at6
noncomputable def cadastreref19_Tokens_j10_s {ρ : Type} (k : Nat) : Run UX ρ := fun s K =>
popS 0 s.env fun v1 e2 =>
asS v1 fun s0 =>
popS 4 e2 fun v3 e4 =>
asO_l68 v3 fun l4 =>
popS 5 e4 fun v5 e6 =>
asB v5 fun long5 =>
popS 6 e6 fun v7 e8 =>
asI .i64 v7 fun at6 =>
popN e8 <|
popN s.hp <|
cadastreref19_Tokens_j10 k (fun s0 l4 long5 at6 => K (.exit 1) ⟨[(0, .pv (.str s0)), (4, .own (.l68 l4)), (5, .pv (.bool long5)), (6, .pv (.int .i64 at6))], []⟩) s0 l4 long5 at6
noncomputable def cadastreref19_Tokens_j12_s {ρ : Type} (k : Nat) : Run UX ρ := fun s K =>
popS 0 s.env fun v1 e2 =>
asS v1 fun s0 =>
popS 4 e2 fun v3 e4 =>
asO_l68 v3 fun l4 =>
popS 5 e4 fun v5 e6 =>
asB v5 fun long5 =>
popS 6 e6 fun v7 e8 =>
asI .i64 v7 fun at6 =>
popN e8 <|
popN s.hp <|
cadastreref19_Tokens_j12 k (fun t2 t3 => K .ret ⟨[(2, .own (.l68 t2)), (3, .pv (.int .i64 t3))], []⟩) (fun s0 l4 long5 at6 => K .nxt ⟨[(0, .pv (.str s0)), (4, .own (.l68 l4)), (5, .pv (.bool long5)), (6, .pv (.int .i64 at6))], []⟩) s0 l4 long5 at6
noncomputable def cadastreref19_Tokens_l6_s {ρ : Type} (k : Nat) : Run UX ρ := fun s K =>
popS 0 s.env fun v1 e2 =>
asS v1 fun s0 =>
popS 4 e2 fun v3 e4 =>
asO_l68 v3 fun l4 =>
popS 5 e4 fun v5 e6 =>
asB v5 fun long5 =>
popS 6 e6 fun v7 e8 =>
asI .i64 v7 fun at6 =>
popN e8 <|
popN s.hp <|
cadastreref19_Tokens_l6 k (fun t2 t3 => K .ret ⟨[(2, .own (.l68 t2)), (3, .pv (.int .i64 t3))], []⟩) (fun l4 long5 => K (.exit 0) ⟨[(4, .own (.l68 l4)), (5, .pv (.bool long5))], []⟩) k s0 l4 long5 at6
noncomputable def cadastreref19_Tokens_cfg {ρ : Type} (k : Nat) : Cfg UX ρ where
  live i := (assoc [(0, [0]), (1, [0]), (2, []), (3, [0]), (4, [0, 4]), (5, [0, 4, 5]), (6, [0, 4, 5, 6]), (7, [0, 4, 5, 6]), (8, [0, 4, 5, 6]), (9, [0, 4, 5, 6]), (10, [0, 4, 5, 6]), (11, [0, 4, 5, 6]), (12, [0, 4, 5, 6]), (13, [0, 4, 5, 7, 8]), (14, []), (15, [0, 4, 5, 7, 8]), (16, [0, 4, 5, 7, 8]), (17, [0, 4, 5, 8]), (18, [4, 5]), (19, []), (20, [4])] i).getD []
  boxes i := (assoc [(0, []), (1, []), (2, []), (3, []), (4, []), (5, []), (6, []), (7, []), (8, []), (9, []), (10, []), (11, []), (12, []), (13, [7]), (14, []), (15, [7]), (16, [7]), (17, []), (18, []), (19, []), (20, [])] i).getD []
  tk i := (assoc [(1000000, [2, 4])] i).getD []
  n := 90
  labelR l := (assoc [] l).getD 0
  loops := assoc [(10, cadastreref19_Tokens_l10_s k), (6, cadastreref19_Tokens_l6_s k)]
  labels := assoc []
  joins := assoc [(10, cadastreref19_Tokens_j10_s k), (12, cadastreref19_Tokens_j12_s k)]
  xl i e := match e with
    | .nxt => assoc [(12, ([0, 4, 5, 6], []))] i
    | .ret => assoc [(12, ([2, 3], [])), (6, ([2, 3], []))] i
    | .exit j => (assoc [(10, [(2, ([0, 4, 5, 6], []))]), (10, [(1, ([0, 4, 5, 6], []))]), (6, [(0, ([4, 5], []))])] i).bind fun l => assoc l j
    | .goto j => (assoc [] i).bind fun l => assoc l j
noncomputable def cadastreref19_Tokens_L : List Code := selI [10, 6] (loopsOf cadastreref19_Tokens_code)
noncomputable def cadastreref19_Tokens_J : List Code := selI [10, 12] (joinsOf cadastreref19_Tokens_code)
noncomputable def cadastreref19_Tokens_S : List Code := scopesOf cadastreref19_Tokens_code
theorem cadastreref19_Tokens_l6_eq0 {ρ : Type} (k : Nat) (K : Ex → St UU → Option ρ) : ∀ (n : Nat) (v : ByteArray × (List S68) × Bool × Int), iterK UX (fun s => s.at (cadastreref19_Tokens_cfg (ρ := ρ) k).live (cadastreref19_Tokens_cfg (ρ := ρ) k).boxes (some 6)) (exec UX (cadastreref19_Tokens_cfg k) (cadastreref19_Tokens_G k) (cadastreref19_Tokens_L.getD 0 .skip)) n ⟨[(0, .pv (.str v.1)), (4, .own (.l68 v.2.1)), (5, .pv (.bool v.2.2.1)), (6, .pv (.int .i64 v.2.2.2))], []⟩ (nrmK UX (cadastreref19_Tokens_cfg k) 6 K) = cadastreref19_Tokens_l6 k (fun t2 t3 => K .ret ⟨[(2, .own (.l68 t2)), (3, .pv (.int .i64 t3))], []⟩) (fun l4 long5 => K (.exit 0) ⟨[(4, .own (.l68 l4)), (5, .pv (.bool long5))], []⟩) n v.1 v.2.1 v.2.2.1 v.2.2.2 :=
  iter_rec (X := UX) (fun v => ⟨[(0, .pv (.str v.1)), (4, .own (.l68 v.2.1)), (5, .pv (.bool v.2.2.1)), (6, .pv (.int .i64 v.2.2.2))], []⟩) (fun rec v => cadastreref19_Tokens_l6_b k (fun t2 t3 => K .ret ⟨[(2, .own (.l68 t2)), (3, .pv (.int .i64 t3))], []⟩) (fun l4 long5 => K (.exit 0) ⟨[(4, .own (.l68 l4)), (5, .pv (.bool long5))], []⟩) (fun s0 l4 long5 at6 => rec (s0, l4, long5, at6)) v.1 v.2.1 v.2.2.1 v.2.2.2) (fun n v => cadastreref19_Tokens_l6 k (fun t2 t3 => K .ret ⟨[(2, .own (.l68 t2)), (3, .pv (.int .i64 t3))], []⟩) (fun l4 long5 => K (.exit 0) ⟨[(4, .own (.l68 l4)), (5, .pv (.bool long5))], []⟩) n v.1 v.2.1 v.2.2.1 v.2.2.2) (fun n v => by kernel_rfl) (fun _ => rfl) (fun _ _ => rfl)
theorem cadastreref19_Tokens_l6_ok0 {ρ : Type} (k : Nat) : IterOK UX (cadastreref19_Tokens_cfg (ρ := ρ) k) (cadastreref19_Tokens_G k) (cadastreref19_Tokens_L.getD 0 .skip) 6 (cadastreref19_Tokens_l6_s k) := by
  intro s K r h
  obtain ⟨env, hp⟩ := s
  unfold cadastreref19_Tokens_l6_s at h
  replace h := popS_inv h; obtain ⟨v1, e2, rfl, h⟩ := h
  replace h := asS_inv h; obtain ⟨s0, rfl, h⟩ := h
  replace h := popS_inv h; obtain ⟨v3, e4, rfl, h⟩ := h
  replace h := asO_l68_inv h; obtain ⟨l4, rfl, h⟩ := h
  replace h := popS_inv h; obtain ⟨v5, e6, rfl, h⟩ := h
  replace h := asB_inv h; obtain ⟨long5, rfl, h⟩ := h
  replace h := popS_inv h; obtain ⟨v7, e8, rfl, h⟩ := h
  replace h := asI_inv h; obtain ⟨at6, rfl, h⟩ := h
  replace h := popN_inv h; obtain ⟨rfl, h⟩ := h
  replace h := popN_inv h; obtain ⟨rfl, h⟩ := h
  exact ⟨k, (cadastreref19_Tokens_l6_eq0 k K k (s0, l4, long5, at6)).trans h⟩
theorem cadastreref19_Tokens_l10_eq1 {ρ : Type} (k : Nat) (K : Ex → St UU → Option ρ) : ∀ (n : Nat) (v : ByteArray × (List S68) × Bool × Int), iterK UX (fun s => s.at (cadastreref19_Tokens_cfg (ρ := ρ) k).live (cadastreref19_Tokens_cfg (ρ := ρ) k).boxes (some 10)) (exec UX (cadastreref19_Tokens_cfg k) (cadastreref19_Tokens_G k) (cadastreref19_Tokens_L.getD 1 .skip)) n ⟨[(0, .pv (.str v.1)), (4, .own (.l68 v.2.1)), (5, .pv (.bool v.2.2.1)), (6, .pv (.int .i64 v.2.2.2))], []⟩ (nrmK UX (cadastreref19_Tokens_cfg k) 10 K) = cadastreref19_Tokens_l10 k (fun s0 l4 long5 at6 => K (.exit 2) ⟨[(0, .pv (.str s0)), (4, .own (.l68 l4)), (5, .pv (.bool long5)), (6, .pv (.int .i64 at6))], []⟩) n v.1 v.2.1 v.2.2.1 v.2.2.2 :=
  iter_rec (X := UX) (fun v => ⟨[(0, .pv (.str v.1)), (4, .own (.l68 v.2.1)), (5, .pv (.bool v.2.2.1)), (6, .pv (.int .i64 v.2.2.2))], []⟩) (fun rec v => cadastreref19_Tokens_l10_b k (fun s0 l4 long5 at6 => K (.exit 2) ⟨[(0, .pv (.str s0)), (4, .own (.l68 l4)), (5, .pv (.bool long5)), (6, .pv (.int .i64 at6))], []⟩) (fun s0 l4 long5 at6 => rec (s0, l4, long5, at6)) v.1 v.2.1 v.2.2.1 v.2.2.2) (fun n v => cadastreref19_Tokens_l10 k (fun s0 l4 long5 at6 => K (.exit 2) ⟨[(0, .pv (.str s0)), (4, .own (.l68 l4)), (5, .pv (.bool long5)), (6, .pv (.int .i64 at6))], []⟩) n v.1 v.2.1 v.2.2.1 v.2.2.2) (fun n v => by kernel_rfl) (fun _ => rfl) (fun _ _ => rfl)
theorem cadastreref19_Tokens_l10_ok1 {ρ : Type} (k : Nat) : IterOK UX (cadastreref19_Tokens_cfg (ρ := ρ) k) (cadastreref19_Tokens_G k) (cadastreref19_Tokens_L.getD 1 .skip) 10 (cadastreref19_Tokens_l10_s k) := by
  intro s K r h
  obtain ⟨env, hp⟩ := s
  unfold cadastreref19_Tokens_l10_s at h
  replace h := popS_inv h; obtain ⟨v1, e2, rfl, h⟩ := h
  replace h := asS_inv h; obtain ⟨s0, rfl, h⟩ := h
  replace h := popS_inv h; obtain ⟨v3, e4, rfl, h⟩ := h
  replace h := asO_l68_inv h; obtain ⟨l4, rfl, h⟩ := h
  replace h := popS_inv h; obtain ⟨v5, e6, rfl, h⟩ := h
  replace h := asB_inv h; obtain ⟨long5, rfl, h⟩ := h
  replace h := popS_inv h; obtain ⟨v7, e8, rfl, h⟩ := h
  replace h := asI_inv h; obtain ⟨at6, rfl, h⟩ := h
  replace h := popN_inv h; obtain ⟨rfl, h⟩ := h
  replace h := popN_inv h; obtain ⟨rfl, h⟩ := h
  exact ⟨k, (cadastreref19_Tokens_l10_eq1 k K k (s0, l4, long5, at6)).trans h⟩
theorem cadastreref19_Tokens_j12_eq0 {ρ : Type} (k : Nat) (K : Ex → St UU → Option ρ) (s0 : ByteArray) (l4 : List S68) (long5 : Bool) (at6 : Int) : exec UX (cadastreref19_Tokens_cfg k) (cadastreref19_Tokens_G k) (cadastreref19_Tokens_J.getD 0 .skip) ⟨[(0, .pv (.str s0)), (4, .own (.l68 l4)), (5, .pv (.bool long5)), (6, .pv (.int .i64 at6))], []⟩ (nrmK UX (cadastreref19_Tokens_cfg k) 12 K) = cadastreref19_Tokens_j12 k (fun t2 t3 => K .ret ⟨[(2, .own (.l68 t2)), (3, .pv (.int .i64 t3))], []⟩) (fun s0 l4 long5 at6 => K .nxt ⟨[(0, .pv (.str s0)), (4, .own (.l68 l4)), (5, .pv (.bool long5)), (6, .pv (.int .i64 at6))], []⟩) s0 l4 long5 at6 := by kernel_rfl
theorem cadastreref19_Tokens_j12_ok0 {ρ : Type} (k : Nat) : JoinOK UX (cadastreref19_Tokens_cfg (ρ := ρ) k) (cadastreref19_Tokens_G k) (cadastreref19_Tokens_J.getD 0 .skip) 12 (cadastreref19_Tokens_j12_s k) := by
  intro s K r h
  obtain ⟨env, hp⟩ := s
  unfold cadastreref19_Tokens_j12_s at h
  replace h := popS_inv h; obtain ⟨v1, e2, rfl, h⟩ := h
  replace h := asS_inv h; obtain ⟨s0, rfl, h⟩ := h
  replace h := popS_inv h; obtain ⟨v3, e4, rfl, h⟩ := h
  replace h := asO_l68_inv h; obtain ⟨l4, rfl, h⟩ := h
  replace h := popS_inv h; obtain ⟨v5, e6, rfl, h⟩ := h
  replace h := asB_inv h; obtain ⟨long5, rfl, h⟩ := h
  replace h := popS_inv h; obtain ⟨v7, e8, rfl, h⟩ := h
  replace h := asI_inv h; obtain ⟨at6, rfl, h⟩ := h
  replace h := popN_inv h; obtain ⟨rfl, h⟩ := h
  replace h := popN_inv h; obtain ⟨rfl, h⟩ := h
  exact (cadastreref19_Tokens_j12_eq0 k K s0 l4 long5 at6).trans h
theorem cadastreref19_Tokens_j10_eq1 {ρ : Type} (k : Nat) (K : Ex → St UU → Option ρ) (s0 : ByteArray) (l4 : List S68) (long5 : Bool) (at6 : Int) : exec UX (cadastreref19_Tokens_cfg k) (cadastreref19_Tokens_G k) (cadastreref19_Tokens_J.getD 1 .skip) ⟨[(0, .pv (.str s0)), (4, .own (.l68 l4)), (5, .pv (.bool long5)), (6, .pv (.int .i64 at6))], []⟩ (nrmK UX (cadastreref19_Tokens_cfg k) 10 K) = cadastreref19_Tokens_j10 k (fun s0 l4 long5 at6 => K (.exit 1) ⟨[(0, .pv (.str s0)), (4, .own (.l68 l4)), (5, .pv (.bool long5)), (6, .pv (.int .i64 at6))], []⟩) s0 l4 long5 at6 := by kernel_rfl
theorem cadastreref19_Tokens_j10_ok1 {ρ : Type} (k : Nat) : JoinOK UX (cadastreref19_Tokens_cfg (ρ := ρ) k) (cadastreref19_Tokens_G k) (cadastreref19_Tokens_J.getD 1 .skip) 10 (cadastreref19_Tokens_j10_s k) := by
  intro s K r h
  obtain ⟨env, hp⟩ := s
  unfold cadastreref19_Tokens_j10_s at h
  replace h := popS_inv h; obtain ⟨v1, e2, rfl, h⟩ := h
  replace h := asS_inv h; obtain ⟨s0, rfl, h⟩ := h
  replace h := popS_inv h; obtain ⟨v3, e4, rfl, h⟩ := h
  replace h := asO_l68_inv h; obtain ⟨l4, rfl, h⟩ := h
  replace h := popS_inv h; obtain ⟨v5, e6, rfl, h⟩ := h
  replace h := asB_inv h; obtain ⟨long5, rfl, h⟩ := h
  replace h := popS_inv h; obtain ⟨v7, e8, rfl, h⟩ := h
  replace h := asI_inv h; obtain ⟨at6, rfl, h⟩ := h
  replace h := popN_inv h; obtain ⟨rfl, h⟩ := h
  replace h := popN_inv h; obtain ⟨rfl, h⟩ := h
  exact (cadastreref19_Tokens_j10_eq1 k K s0 l4 long5 at6).trans h
theorem cadastreref19_Tokens_cok {ρ : Type} (k : Nat) : COK (cadastreref19_Tokens_cfg (ρ := ρ) k) (cadastreref19_Tokens_G k) cadastreref19_Tokens_code :=
  cok_of (tl := [(10, cadastreref19_Tokens_l10_s k), (6, cadastreref19_Tokens_l6_s k)]) (tj := [(10, cadastreref19_Tokens_j10_s k), (12, cadastreref19_Tokens_j12_s k)]) (tb := []) rfl rfl rfl (all_nth 2 (by kernel_rfl) ⟨iter_case (by kernel_rfl) rfl (cadastreref19_Tokens_l10_ok1 k), iter_case (by kernel_rfl) rfl (cadastreref19_Tokens_l6_ok0 k), trivial⟩) (all_nth 2 (by kernel_rfl) ⟨join_case (by kernel_rfl) rfl (cadastreref19_Tokens_j10_ok1 k), join_case (by kernel_rfl) rfl (cadastreref19_Tokens_j12_ok0 k), trivial⟩) (fun p hp => by cases hp)
noncomputable def cadastreref19_Tokens_enc (r : (List S68) × Int) : AV UU := .pv (.tup [.typ (.l68 r.1), .int .i64 r.2])
noncomputable def cadastreref19_Tokens_dec (v : AV UU) (_ : List (List (AV UU))) : Option ((List S68) × Int) :=
asT v fun q1 =>
popA q1 fun p2 q3 =>
as_l68 (.pv p2) fun r0 =>
popA q3 fun p4 q5 =>
asI .i64 (.pv p4) fun r1 =>
popN q5 <|
some (r0, r1)
theorem cadastreref19_Tokens_dec_enc (v : AV UU) (b : List (List (AV UU))) (r : (List S68) × Int) (h : cadastreref19_Tokens_dec v b = some r) : v = cadastreref19_Tokens_enc r := by
  unfold cadastreref19_Tokens_dec at h
  replace h := asT_inv h; obtain ⟨q1, rfl, h⟩ := h
  replace h := popA_inv h; obtain ⟨p2, q3, rfl, h⟩ := h
  replace h := as_l68_inv h; obtain ⟨r0, e, h⟩ := h; cases e
  replace h := popA_inv h; obtain ⟨p4, q5, rfl, h⟩ := h
  replace h := asI_inv h; obtain ⟨r1, e, h⟩ := h; cases e
  replace h := popN_inv h; obtain ⟨rfl, h⟩ := h
  cases h
  rfl
theorem cadastreref19_Tokens_eq (k : Nat) (s0 : ByteArray) : bodyK UX (cadastreref19_Tokens_cfg k) (cadastreref19_Tokens_G k) Try.f38 [.pv (.str s0)] [] cadastreref19_Tokens_dec = cadastreref19_Tokens k s0 := by kernel_rfl
theorem cadastreref19_Tokens_con (k : Nat) (s0 : ByteArray) (r : (List S68) × Int) (h : cadastreref19_Tokens k s0 = some r) : Con (X := UX) Try.prog 38 [.pv (.str s0)] [] (cadastreref19_Tokens_enc r) [] :=
  con_of_body xok tok Try.func38 cadastreref19_Tokens_body (cadastreref19_Tokens_gok k) rfl (cadastreref19_Tokens_cok k) (of_decide_eq_true (by kernel_rfl)) cadastreref19_Tokens_dec_enc ((cadastreref19_Tokens_eq k s0).trans h)
noncomputable def cadastreref19_Tokens_an {ρ : Type} (k : Nat) : An UX ρ := fun args bx K =>
popA args fun v1 a2 =>
asS v1 fun s0 =>
popN a2 <|
popN bx <|
(cadastreref19_Tokens k s0).bind fun r => K (cadastreref19_Tokens_enc r) []
theorem cadastreref19_Tokens_ok {ρ : Type} (k : Nat) : AnsOK Try.prog 38 (cadastreref19_Tokens_an (ρ := ρ) k) := by
  intro args bx K r h
  unfold cadastreref19_Tokens_an at h
  replace h := popA_inv h; obtain ⟨v1, a2, rfl, h⟩ := h
  replace h := asS_inv h; obtain ⟨s0, rfl, h⟩ := h
  replace h := popN_inv h; obtain ⟨rfl, h⟩ := h
  replace h := popN_inv h; obtain ⟨rfl, h⟩ := h
  replace h := bind_inv h
  obtain ⟨x, hx, h⟩ := h
  exact ⟨there_of Try.func38 (by kernel_rfl) cadastreref19_Tokens_body, _, _, h, cadastreref19_Tokens_con k s0 x hx⟩

/-! cadastre/cadastrelaw19.num -/
noncomputable def cadastrelaw19_num_code : Code := match Try.f39.body with | some c => c | none => .skip
theorem cadastrelaw19_num_body : Try.f39.body = some cadastrelaw19_num_code := by kernel_rfl
noncomputable def cadastrelaw19_num_G {ρ : Type} (k : Nat) : Ans UX ρ := gnil
theorem cadastrelaw19_num_gok {ρ : Type} (k : Nat) : GOK Try.prog (cadastrelaw19_num_G (ρ := ρ) k) := gok_nil
noncomputable def cadastrelaw19_num_cfg {ρ : Type} (k : Nat) : Cfg UX ρ where
  live i := (assoc [(0, [0]), (1, [0])] i).getD []
  boxes i := (assoc [(0, []), (1, [])] i).getD []
  tk i := (assoc [] i).getD []
  n := 4
  labelR l := (assoc [] l).getD 0
  loops := assoc []
  labels := assoc []
  joins := assoc []
  xl i e := match e with
    | .nxt => assoc [] i
    | .ret => assoc [] i
    | .exit j => (assoc [] i).bind fun l => assoc l j
    | .goto j => (assoc [] i).bind fun l => assoc l j
noncomputable def cadastrelaw19_num_L : List Code := selI [] (loopsOf cadastrelaw19_num_code)
noncomputable def cadastrelaw19_num_J : List Code := selI [] (joinsOf cadastrelaw19_num_code)
noncomputable def cadastrelaw19_num_S : List Code := scopesOf cadastrelaw19_num_code
theorem cadastrelaw19_num_cok {ρ : Type} (k : Nat) : COK (cadastrelaw19_num_cfg (ρ := ρ) k) (cadastrelaw19_num_G k) cadastrelaw19_num_code :=
  cok_of (tl := []) (tj := []) (tb := []) rfl rfl rfl (nil_all (by kernel_rfl)) (nil_all (by kernel_rfl)) (fun p hp => by cases hp)
noncomputable def cadastrelaw19_num_enc (r : Int) : AV UU := .pv (.int .i64 r)
noncomputable def cadastrelaw19_num_dec (v : AV UU) (_ : List (List (AV UU))) : Option Int :=
asI .i64 v fun r0 =>
some r0
theorem cadastrelaw19_num_dec_enc (v : AV UU) (b : List (List (AV UU))) (r : Int) (h : cadastrelaw19_num_dec v b = some r) : v = cadastrelaw19_num_enc r := by
  unfold cadastrelaw19_num_dec at h
  replace h := asI_inv h; obtain ⟨r0, rfl, h⟩ := h
  cases h
  rfl
theorem cadastrelaw19_num_eq (k : Nat) (e0 : Int) : bodyK UX (cadastrelaw19_num_cfg k) (cadastrelaw19_num_G k) Try.f39 [.pv (.int .i64 e0)] [] cadastrelaw19_num_dec = cadastrelaw19_num k e0 := by kernel_rfl
theorem cadastrelaw19_num_con (k : Nat) (e0 : Int) (r : Int) (h : cadastrelaw19_num k e0 = some r) : Con (X := UX) Try.prog 39 [.pv (.int .i64 e0)] [] (cadastrelaw19_num_enc r) [] :=
  con_of_body xok tok Try.func39 cadastrelaw19_num_body (cadastrelaw19_num_gok k) rfl (cadastrelaw19_num_cok k) (of_decide_eq_true (by kernel_rfl)) cadastrelaw19_num_dec_enc ((cadastrelaw19_num_eq k e0).trans h)
noncomputable def cadastrelaw19_num_an {ρ : Type} (k : Nat) : An UX ρ := fun args bx K =>
popA args fun v1 a2 =>
asI .i64 v1 fun e0 =>
popN a2 <|
popN bx <|
(cadastrelaw19_num k e0).bind fun r => K (cadastrelaw19_num_enc r) []
theorem cadastrelaw19_num_ok {ρ : Type} (k : Nat) : AnsOK Try.prog 39 (cadastrelaw19_num_an (ρ := ρ) k) := by
  intro args bx K r h
  unfold cadastrelaw19_num_an at h
  replace h := popA_inv h; obtain ⟨v1, a2, rfl, h⟩ := h
  replace h := asI_inv h; obtain ⟨e0, rfl, h⟩ := h
  replace h := popN_inv h; obtain ⟨rfl, h⟩ := h
  replace h := popN_inv h; obtain ⟨rfl, h⟩ := h
  replace h := bind_inv h
  obtain ⟨x, hx, h⟩ := h
  exact ⟨there_of Try.func39 (by kernel_rfl) cadastrelaw19_num_body, _, _, h, cadastrelaw19_num_con k e0 x hx⟩

/-! cadastre/cadastreref0.EqTokens -/
noncomputable def cadastreref0_EqTokens_code : Code := match Try.f40.body with | some c => c | none => .skip
theorem cadastreref0_EqTokens_body : Try.f40.body = some cadastreref0_EqTokens_code := by kernel_rfl
noncomputable def cadastreref0_EqTokens_G {ρ : Type} (k : Nat) : Ans UX ρ := gnil
theorem cadastreref0_EqTokens_gok {ρ : Type} (k : Nat) : GOK Try.prog (cadastreref0_EqTokens_G (ρ := ρ) k) := gok_nil
noncomputable def cadastreref0_EqTokens_l4_s {ρ : Type} (k : Nat) : Run UX ρ := fun s K =>
popS 0 s.env fun v1 e2 =>
as_l68 v1 fun a0 =>
popS 1 e2 fun v3 e4 =>
as_l68 v3 fun b1 =>
popS 5 e4 fun v5 e6 =>
asI .i64 v5 fun i5 =>
popN e6 <|
popN s.hp <|
cadastreref0_EqTokens_l4 k (fun t4 => K .ret ⟨[(4, .pv (.bool t4))], []⟩) (K (.exit 0) ⟨[], []⟩) k a0 b1 i5
noncomputable def cadastreref0_EqTokens_cfg {ρ : Type} (k : Nat) : Cfg UX ρ where
  live i := (assoc [(0, [0, 1]), (1, [0, 1]), (2, []), (3, [0, 1]), (4, [0, 1, 5]), (5, [0, 1, 5]), (6, [0, 1, 5]), (7, []), (8, [])] i).getD []
  boxes i := (assoc [(0, []), (1, []), (2, []), (3, []), (4, []), (5, []), (6, []), (7, []), (8, [])] i).getD []
  tk i := (assoc [] i).getD []
  n := 26
  labelR l := (assoc [] l).getD 0
  loops := assoc [(4, cadastreref0_EqTokens_l4_s k)]
  labels := assoc []
  joins := assoc []
  xl i e := match e with
    | .nxt => assoc [] i
    | .ret => assoc [(4, ([4], []))] i
    | .exit j => (assoc [(4, [(0, ([], []))])] i).bind fun l => assoc l j
    | .goto j => (assoc [] i).bind fun l => assoc l j
noncomputable def cadastreref0_EqTokens_L : List Code := selI [4] (loopsOf cadastreref0_EqTokens_code)
noncomputable def cadastreref0_EqTokens_J : List Code := selI [] (joinsOf cadastreref0_EqTokens_code)
noncomputable def cadastreref0_EqTokens_S : List Code := scopesOf cadastreref0_EqTokens_code
theorem cadastreref0_EqTokens_l4_eq0 {ρ : Type} (k : Nat) (K : Ex → St UU → Option ρ) : ∀ (n : Nat) (v : (List S68) × (List S68) × Int), iterK UX (fun s => s.at (cadastreref0_EqTokens_cfg (ρ := ρ) k).live (cadastreref0_EqTokens_cfg (ρ := ρ) k).boxes (some 4)) (exec UX (cadastreref0_EqTokens_cfg k) (cadastreref0_EqTokens_G k) (cadastreref0_EqTokens_L.getD 0 .skip)) n ⟨[(0, .pv (.typ (.l68 v.1))), (1, .pv (.typ (.l68 v.2.1))), (5, .pv (.int .i64 v.2.2))], []⟩ (nrmK UX (cadastreref0_EqTokens_cfg k) 4 K) = cadastreref0_EqTokens_l4 k (fun t4 => K .ret ⟨[(4, .pv (.bool t4))], []⟩) (K (.exit 0) ⟨[], []⟩) n v.1 v.2.1 v.2.2 :=
  iter_rec (X := UX) (fun v => ⟨[(0, .pv (.typ (.l68 v.1))), (1, .pv (.typ (.l68 v.2.1))), (5, .pv (.int .i64 v.2.2))], []⟩) (fun rec v => cadastreref0_EqTokens_l4_b k (fun t4 => K .ret ⟨[(4, .pv (.bool t4))], []⟩) (K (.exit 0) ⟨[], []⟩) (fun a0 b1 i5 => rec (a0, b1, i5)) v.1 v.2.1 v.2.2) (fun n v => cadastreref0_EqTokens_l4 k (fun t4 => K .ret ⟨[(4, .pv (.bool t4))], []⟩) (K (.exit 0) ⟨[], []⟩) n v.1 v.2.1 v.2.2) (fun n v => by kernel_rfl) (fun _ => rfl) (fun _ _ => rfl)
theorem cadastreref0_EqTokens_l4_ok0 {ρ : Type} (k : Nat) : IterOK UX (cadastreref0_EqTokens_cfg (ρ := ρ) k) (cadastreref0_EqTokens_G k) (cadastreref0_EqTokens_L.getD 0 .skip) 4 (cadastreref0_EqTokens_l4_s k) := by
  intro s K r h
  obtain ⟨env, hp⟩ := s
  unfold cadastreref0_EqTokens_l4_s at h
  replace h := popS_inv h; obtain ⟨v1, e2, rfl, h⟩ := h
  replace h := as_l68_inv h; obtain ⟨a0, rfl, h⟩ := h
  replace h := popS_inv h; obtain ⟨v3, e4, rfl, h⟩ := h
  replace h := as_l68_inv h; obtain ⟨b1, rfl, h⟩ := h
  replace h := popS_inv h; obtain ⟨v5, e6, rfl, h⟩ := h
  replace h := asI_inv h; obtain ⟨i5, rfl, h⟩ := h
  replace h := popN_inv h; obtain ⟨rfl, h⟩ := h
  replace h := popN_inv h; obtain ⟨rfl, h⟩ := h
  exact ⟨k, (cadastreref0_EqTokens_l4_eq0 k K k (a0, b1, i5)).trans h⟩
theorem cadastreref0_EqTokens_cok {ρ : Type} (k : Nat) : COK (cadastreref0_EqTokens_cfg (ρ := ρ) k) (cadastreref0_EqTokens_G k) cadastreref0_EqTokens_code :=
  cok_of (tl := [(4, cadastreref0_EqTokens_l4_s k)]) (tj := []) (tb := []) rfl rfl rfl (all_nth 1 (by kernel_rfl) ⟨iter_case (by kernel_rfl) rfl (cadastreref0_EqTokens_l4_ok0 k), trivial⟩) (nil_all (by kernel_rfl)) (fun p hp => by cases hp)
noncomputable def cadastreref0_EqTokens_enc (r : Bool) : AV UU := .pv (.bool r)
noncomputable def cadastreref0_EqTokens_dec (v : AV UU) (_ : List (List (AV UU))) : Option Bool :=
asB v fun r0 =>
some r0
theorem cadastreref0_EqTokens_dec_enc (v : AV UU) (b : List (List (AV UU))) (r : Bool) (h : cadastreref0_EqTokens_dec v b = some r) : v = cadastreref0_EqTokens_enc r := by
  unfold cadastreref0_EqTokens_dec at h
  replace h := asB_inv h; obtain ⟨r0, rfl, h⟩ := h
  cases h
  rfl
theorem cadastreref0_EqTokens_eq (k : Nat) (a0 : List S68) (b1 : List S68) : bodyK UX (cadastreref0_EqTokens_cfg k) (cadastreref0_EqTokens_G k) Try.f40 [.pv (.typ (.l68 a0)), .pv (.typ (.l68 b1))] [] cadastreref0_EqTokens_dec = cadastreref0_EqTokens k a0 b1 := by kernel_rfl
theorem cadastreref0_EqTokens_con (k : Nat) (a0 : List S68) (b1 : List S68) (r : Bool) (h : cadastreref0_EqTokens k a0 b1 = some r) : Con (X := UX) Try.prog 40 [.pv (.typ (.l68 a0)), .pv (.typ (.l68 b1))] [] (cadastreref0_EqTokens_enc r) [] :=
  con_of_body xok tok Try.func40 cadastreref0_EqTokens_body (cadastreref0_EqTokens_gok k) rfl (cadastreref0_EqTokens_cok k) (of_decide_eq_true (by kernel_rfl)) cadastreref0_EqTokens_dec_enc ((cadastreref0_EqTokens_eq k a0 b1).trans h)
noncomputable def cadastreref0_EqTokens_an {ρ : Type} (k : Nat) : An UX ρ := fun args bx K =>
popA args fun v1 a2 =>
as_l68 v1 fun a0 =>
popA a2 fun v3 a4 =>
as_l68 v3 fun b1 =>
popN a4 <|
popN bx <|
(cadastreref0_EqTokens k a0 b1).bind fun r => K (cadastreref0_EqTokens_enc r) []
theorem cadastreref0_EqTokens_ok {ρ : Type} (k : Nat) : AnsOK Try.prog 40 (cadastreref0_EqTokens_an (ρ := ρ) k) := by
  intro args bx K r h
  unfold cadastreref0_EqTokens_an at h
  replace h := popA_inv h; obtain ⟨v1, a2, rfl, h⟩ := h
  replace h := as_l68_inv h; obtain ⟨a0, rfl, h⟩ := h
  replace h := popA_inv h; obtain ⟨v3, a4, rfl, h⟩ := h
  replace h := as_l68_inv h; obtain ⟨b1, rfl, h⟩ := h
  replace h := popN_inv h; obtain ⟨rfl, h⟩ := h
  replace h := popN_inv h; obtain ⟨rfl, h⟩ := h
  replace h := bind_inv h
  obtain ⟨x, hx, h⟩ := h
  exact ⟨there_of Try.func40 (by kernel_rfl) cadastreref0_EqTokens_body, _, _, h, cadastreref0_EqTokens_con k a0 b1 x hx⟩

/-! cadastre/cadastrelaw0.Tokens -/
noncomputable def cadastrelaw0_Tokens_o0_code : Code := match Try.f41.body with | some c => c | none => .skip
theorem cadastrelaw0_Tokens_o0_body : Try.f41.body = some cadastrelaw0_Tokens_o0_code := by kernel_rfl
noncomputable def cadastrelaw0_Tokens_o0_G {ρ : Type} (k : Nat) : Ans UX ρ := gnil
theorem cadastrelaw0_Tokens_o0_gok {ρ : Type} (k : Nat) : GOK Try.prog (cadastrelaw0_Tokens_o0_G (ρ := ρ) k) := gok_nil
noncomputable def cadastrelaw0_Tokens_o0_l1_s {ρ : Type} (k : Nat) : Run UX ρ := fun s K =>
popS 0 s.env fun v1 e2 =>
asO_l68 v1 fun l0 =>
popS 2 e2 fun v3 e4 =>
asI .i64 v3 fun i2 =>
popN e4 <|
popN s.hp <|
cadastrelaw0_Tokens_o0_l1 k (fun l0 => K (.exit 0) ⟨[(0, .own (.l68 l0))], []⟩) k l0 i2
noncomputable def cadastrelaw0_Tokens_o0_cfg {ρ : Type} (k : Nat) : Cfg UX ρ where
  live i := (assoc [(0, [0]), (1, [0, 2]), (2, [0, 2]), (3, [0, 2]), (4, [0])] i).getD []
  boxes i := (assoc [(0, []), (1, []), (2, []), (3, []), (4, [])] i).getD []
  tk i := (assoc [] i).getD []
  n := 17
  labelR l := (assoc [] l).getD 0
  loops := assoc [(1, cadastrelaw0_Tokens_o0_l1_s k)]
  labels := assoc []
  joins := assoc []
  xl i e := match e with
    | .nxt => assoc [] i
    | .ret => assoc [] i
    | .exit j => (assoc [(1, [(0, ([0], []))])] i).bind fun l => assoc l j
    | .goto j => (assoc [] i).bind fun l => assoc l j
noncomputable def cadastrelaw0_Tokens_o0_L : List Code := selI [1] (loopsOf cadastrelaw0_Tokens_o0_code)
noncomputable def cadastrelaw0_Tokens_o0_J : List Code := selI [] (joinsOf cadastrelaw0_Tokens_o0_code)
noncomputable def cadastrelaw0_Tokens_o0_S : List Code := scopesOf cadastrelaw0_Tokens_o0_code
theorem cadastrelaw0_Tokens_o0_l1_eq0 {ρ : Type} (k : Nat) (K : Ex → St UU → Option ρ) : ∀ (n : Nat) (v : (List S68) × Int), iterK UX (fun s => s.at (cadastrelaw0_Tokens_o0_cfg (ρ := ρ) k).live (cadastrelaw0_Tokens_o0_cfg (ρ := ρ) k).boxes (some 1)) (exec UX (cadastrelaw0_Tokens_o0_cfg k) (cadastrelaw0_Tokens_o0_G k) (cadastrelaw0_Tokens_o0_L.getD 0 .skip)) n ⟨[(0, .own (.l68 v.1)), (2, .pv (.int .i64 v.2))], []⟩ (nrmK UX (cadastrelaw0_Tokens_o0_cfg k) 1 K) = cadastrelaw0_Tokens_o0_l1 k (fun l0 => K (.exit 0) ⟨[(0, .own (.l68 l0))], []⟩) n v.1 v.2 :=
  iter_rec (X := UX) (fun v => ⟨[(0, .own (.l68 v.1)), (2, .pv (.int .i64 v.2))], []⟩) (fun rec v => cadastrelaw0_Tokens_o0_l1_b k (fun l0 => K (.exit 0) ⟨[(0, .own (.l68 l0))], []⟩) (fun l0 i2 => rec (l0, i2)) v.1 v.2) (fun n v => cadastrelaw0_Tokens_o0_l1 k (fun l0 => K (.exit 0) ⟨[(0, .own (.l68 l0))], []⟩) n v.1 v.2) (fun n v => by kernel_rfl) (fun _ => rfl) (fun _ _ => rfl)
theorem cadastrelaw0_Tokens_o0_l1_ok0 {ρ : Type} (k : Nat) : IterOK UX (cadastrelaw0_Tokens_o0_cfg (ρ := ρ) k) (cadastrelaw0_Tokens_o0_G k) (cadastrelaw0_Tokens_o0_L.getD 0 .skip) 1 (cadastrelaw0_Tokens_o0_l1_s k) := by
  intro s K r h
  obtain ⟨env, hp⟩ := s
  unfold cadastrelaw0_Tokens_o0_l1_s at h
  replace h := popS_inv h; obtain ⟨v1, e2, rfl, h⟩ := h
  replace h := asO_l68_inv h; obtain ⟨l0, rfl, h⟩ := h
  replace h := popS_inv h; obtain ⟨v3, e4, rfl, h⟩ := h
  replace h := asI_inv h; obtain ⟨i2, rfl, h⟩ := h
  replace h := popN_inv h; obtain ⟨rfl, h⟩ := h
  replace h := popN_inv h; obtain ⟨rfl, h⟩ := h
  exact ⟨k, (cadastrelaw0_Tokens_o0_l1_eq0 k K k (l0, i2)).trans h⟩
theorem cadastrelaw0_Tokens_o0_cok {ρ : Type} (k : Nat) : COK (cadastrelaw0_Tokens_o0_cfg (ρ := ρ) k) (cadastrelaw0_Tokens_o0_G k) cadastrelaw0_Tokens_o0_code :=
  cok_of (tl := [(1, cadastrelaw0_Tokens_o0_l1_s k)]) (tj := []) (tb := []) rfl rfl rfl (all_nth 1 (by kernel_rfl) ⟨iter_case (by kernel_rfl) rfl (cadastrelaw0_Tokens_o0_l1_ok0 k), trivial⟩) (nil_all (by kernel_rfl)) (fun p hp => by cases hp)
noncomputable def cadastrelaw0_Tokens_o0_enc (r : Unit) : AV UU := .pv (.tup [])
noncomputable def cadastrelaw0_Tokens_o0_dec (v : AV UU) (_ : List (List (AV UU))) : Option Unit :=
asT v fun q1 =>
popN q1 <|
some ()
theorem cadastrelaw0_Tokens_o0_dec_enc (v : AV UU) (b : List (List (AV UU))) (r : Unit) (h : cadastrelaw0_Tokens_o0_dec v b = some r) : v = cadastrelaw0_Tokens_o0_enc r := by
  unfold cadastrelaw0_Tokens_o0_dec at h
  replace h := asT_inv h; obtain ⟨q1, rfl, h⟩ := h
  replace h := popN_inv h; obtain ⟨rfl, h⟩ := h
  cases h
  rfl
theorem cadastrelaw0_Tokens_o0_eq (k : Nat) (l0 : List S68) : bodyK UX (cadastrelaw0_Tokens_o0_cfg k) (cadastrelaw0_Tokens_o0_G k) Try.f41 [.own (.l68 l0)] [] cadastrelaw0_Tokens_o0_dec = cadastrelaw0_Tokens_o0 k l0 := by kernel_rfl
theorem cadastrelaw0_Tokens_o0_con (k : Nat) (l0 : List S68) (r : Unit) (h : cadastrelaw0_Tokens_o0 k l0 = some r) : Con (X := UX) Try.prog 41 [.own (.l68 l0)] [] (cadastrelaw0_Tokens_o0_enc r) [] :=
  con_of_body xok tok Try.func41 cadastrelaw0_Tokens_o0_body (cadastrelaw0_Tokens_o0_gok k) rfl (cadastrelaw0_Tokens_o0_cok k) (of_decide_eq_true (by kernel_rfl)) cadastrelaw0_Tokens_o0_dec_enc ((cadastrelaw0_Tokens_o0_eq k l0).trans h)
noncomputable def cadastrelaw0_Tokens_o0_an {ρ : Type} (k : Nat) : An UX ρ := fun args bx K =>
popA args fun v1 a2 =>
asO_l68 v1 fun l0 =>
popN a2 <|
popN bx <|
(cadastrelaw0_Tokens_o0 k l0).bind fun r => K (cadastrelaw0_Tokens_o0_enc r) []
theorem cadastrelaw0_Tokens_o0_ok {ρ : Type} (k : Nat) : AnsOK Try.prog 41 (cadastrelaw0_Tokens_o0_an (ρ := ρ) k) := by
  intro args bx K r h
  unfold cadastrelaw0_Tokens_o0_an at h
  replace h := popA_inv h; obtain ⟨v1, a2, rfl, h⟩ := h
  replace h := asO_l68_inv h; obtain ⟨l0, rfl, h⟩ := h
  replace h := popN_inv h; obtain ⟨rfl, h⟩ := h
  replace h := popN_inv h; obtain ⟨rfl, h⟩ := h
  replace h := bind_inv h
  obtain ⟨x, hx, h⟩ := h
  exact ⟨there_of Try.func41 (by kernel_rfl) cadastrelaw0_Tokens_o0_body, _, _, h, cadastrelaw0_Tokens_o0_con k l0 x hx⟩

/-! cadastre/cadastrelaw19.wakes -/
noncomputable def cadastrelaw19_wakes_code : Code := match Try.f42.body with | some c => c | none => .skip
theorem cadastrelaw19_wakes_body : Try.f42.body = some cadastrelaw19_wakes_code := by kernel_rfl
noncomputable def cadastrelaw19_wakes_G {ρ : Type} (k : Nat) : Ans UX ρ := gk 37 (lex_Tokens_an k) (gk 39 (cadastrelaw19_num_an k) (gk 40 (cadastreref0_EqTokens_an k) (gnil)))
theorem cadastrelaw19_wakes_gok {ρ : Type} (k : Nat) : GOK Try.prog (cadastrelaw19_wakes_G (ρ := ρ) k) := gok_cons (lex_Tokens_ok k) (gok_cons (cadastrelaw19_num_ok k) (gok_cons (cadastreref0_EqTokens_ok k) (gok_nil)))
noncomputable def cadastrelaw19_wakes_cfg {ρ : Type} (k : Nat) : Cfg UX ρ where
  live i := (assoc [(0, []), (1, []), (2, [1, 2])] i).getD []
  boxes i := (assoc [(0, []), (1, []), (2, [])] i).getD []
  tk i := (assoc [] i).getD []
  n := 17
  labelR l := (assoc [] l).getD 0
  loops := assoc []
  labels := assoc []
  joins := assoc []
  xl i e := match e with
    | .nxt => assoc [] i
    | .ret => assoc [] i
    | .exit j => (assoc [] i).bind fun l => assoc l j
    | .goto j => (assoc [] i).bind fun l => assoc l j
noncomputable def cadastrelaw19_wakes_L : List Code := selI [] (loopsOf cadastrelaw19_wakes_code)
noncomputable def cadastrelaw19_wakes_J : List Code := selI [] (joinsOf cadastrelaw19_wakes_code)
noncomputable def cadastrelaw19_wakes_S : List Code := scopesOf cadastrelaw19_wakes_code
theorem cadastrelaw19_wakes_cok {ρ : Type} (k : Nat) : COK (cadastrelaw19_wakes_cfg (ρ := ρ) k) (cadastrelaw19_wakes_G k) cadastrelaw19_wakes_code :=
  cok_of (tl := []) (tj := []) (tb := []) rfl rfl rfl (nil_all (by kernel_rfl)) (nil_all (by kernel_rfl)) (fun p hp => by cases hp)
noncomputable def cadastrelaw19_wakes_enc (r : Bool) : AV UU := .pv (.bool r)
noncomputable def cadastrelaw19_wakes_dec (v : AV UU) (_ : List (List (AV UU))) : Option Bool :=
asB v fun r0 =>
some r0
theorem cadastrelaw19_wakes_dec_enc (v : AV UU) (b : List (List (AV UU))) (r : Bool) (h : cadastrelaw19_wakes_dec v b = some r) : v = cadastrelaw19_wakes_enc r := by
  unfold cadastrelaw19_wakes_dec at h
  replace h := asB_inv h; obtain ⟨r0, rfl, h⟩ := h
  cases h
  rfl
theorem cadastrelaw19_wakes_eq (k : Nat) : bodyK UX (cadastrelaw19_wakes_cfg k) (cadastrelaw19_wakes_G k) Try.f42 [] [] cadastrelaw19_wakes_dec = cadastrelaw19_wakes k := by kernel_rfl
theorem cadastrelaw19_wakes_con (k : Nat) (r : Bool) (h : cadastrelaw19_wakes k = some r) : Con (X := UX) Try.prog 42 [] [] (cadastrelaw19_wakes_enc r) [] :=
  con_of_body xok tok Try.func42 cadastrelaw19_wakes_body (cadastrelaw19_wakes_gok k) rfl (cadastrelaw19_wakes_cok k) (of_decide_eq_true (by kernel_rfl)) cadastrelaw19_wakes_dec_enc ((cadastrelaw19_wakes_eq k).trans h)
noncomputable def cadastrelaw19_wakes_an {ρ : Type} (k : Nat) : An UX ρ := fun args bx K =>
popN args <|
popN bx <|
(cadastrelaw19_wakes k).bind fun r => K (cadastrelaw19_wakes_enc r) []
theorem cadastrelaw19_wakes_ok {ρ : Type} (k : Nat) : AnsOK Try.prog 42 (cadastrelaw19_wakes_an (ρ := ρ) k) := by
  intro args bx K r h
  unfold cadastrelaw19_wakes_an at h
  replace h := popN_inv h; obtain ⟨rfl, h⟩ := h
  replace h := popN_inv h; obtain ⟨rfl, h⟩ := h
  replace h := bind_inv h
  obtain ⟨x, hx, h⟩ := h
  exact ⟨there_of Try.func42 (by kernel_rfl) cadastrelaw19_wakes_body, _, _, h, cadastrelaw19_wakes_con k x hx⟩

/-! cadastre/cadastrelaw19.LexExact -/
noncomputable def cadastrelaw19_LexExact_code : Code := match Try.f9.body with | some c => c | none => .skip
theorem cadastrelaw19_LexExact_body : Try.f9.body = some cadastrelaw19_LexExact_code := by kernel_rfl
noncomputable def cadastrelaw19_LexExact_G {ρ : Type} (k : Nat) : Ans UX ρ := gk 37 (lex_Tokens_an k) (gk 38 (cadastreref19_Tokens_an k) (gk 39 (cadastrelaw19_num_an k) (gk 40 (cadastreref0_EqTokens_an k) (gk 41 (cadastrelaw0_Tokens_o0_an k) (gk 42 (cadastrelaw19_wakes_an k) (gnil))))))
theorem cadastrelaw19_LexExact_gok {ρ : Type} (k : Nat) : GOK Try.prog (cadastrelaw19_LexExact_G (ρ := ρ) k) := gok_cons (lex_Tokens_ok k) (gok_cons (cadastreref19_Tokens_ok k) (gok_cons (cadastrelaw19_num_ok k) (gok_cons (cadastreref0_EqTokens_ok k) (gok_cons (cadastrelaw0_Tokens_o0_ok k) (gok_cons (cadastrelaw19_wakes_ok k) (gok_nil))))))
noncomputable def cadastrelaw19_LexExact_j4_s {ρ : Type} (k : Nat) : Run UX ρ := fun s K =>
popS 0 s.env fun v1 e2 =>
as_ls v1 fun l0 =>
popS 3 e2 fun v3 e4 =>
asI .i64 v3 fun i3 =>
popN e4 <|
popN s.hp <|
cadastrelaw19_LexExact_j4 k (fun t2 => K .ret ⟨[(2, .pv (.bool t2))], []⟩) (fun l0 i3 => K .nxt ⟨[(0, .pv (.typ (.ls l0))), (3, .pv (.int .i64 i3))], []⟩) l0 i3
noncomputable def cadastrelaw19_LexExact_l2_s {ρ : Type} (k : Nat) : Run UX ρ := fun s K =>
popS 0 s.env fun v1 e2 =>
as_ls v1 fun l0 =>
popS 3 e2 fun v3 e4 =>
asI .i64 v3 fun i3 =>
popN e4 <|
popN s.hp <|
cadastrelaw19_LexExact_l2 k (fun t2 => K .ret ⟨[(2, .pv (.bool t2))], []⟩) (K (.exit 0) ⟨[], []⟩) k l0 i3
noncomputable def cadastrelaw19_LexExact_cfg {ρ : Type} (k : Nat) : Cfg UX ρ where
  live i := (assoc [(0, [0]), (1, [0]), (2, [0, 3]), (3, [0, 3]), (4, [0, 3]), (5, []), (6, [0, 3]), (7, [0, 3, 4, 5]), (8, [0, 3, 4, 5, 6, 7]), (9, []), (10, [0, 3, 4]), (11, [])] i).getD []
  boxes i := (assoc [(0, []), (1, []), (2, []), (3, []), (4, []), (5, []), (6, []), (7, []), (8, []), (9, []), (10, []), (11, [])] i).getD []
  tk i := (assoc [(41, [0])] i).getD []
  n := 53
  labelR l := (assoc [] l).getD 0
  loops := assoc [(2, cadastrelaw19_LexExact_l2_s k)]
  labels := assoc []
  joins := assoc [(4, cadastrelaw19_LexExact_j4_s k)]
  xl i e := match e with
    | .nxt => assoc [(4, ([0, 3], []))] i
    | .ret => assoc [(4, ([2], [])), (2, ([2], []))] i
    | .exit j => (assoc [(2, [(0, ([], []))])] i).bind fun l => assoc l j
    | .goto j => (assoc [] i).bind fun l => assoc l j
noncomputable def cadastrelaw19_LexExact_L : List Code := selI [2] (loopsOf cadastrelaw19_LexExact_code)
noncomputable def cadastrelaw19_LexExact_J : List Code := selI [4] (joinsOf cadastrelaw19_LexExact_code)
noncomputable def cadastrelaw19_LexExact_S : List Code := scopesOf cadastrelaw19_LexExact_code
theorem cadastrelaw19_LexExact_l2_eq0 {ρ : Type} (k : Nat) (K : Ex → St UU → Option ρ) : ∀ (n : Nat) (v : (List ByteArray) × Int), iterK UX (fun s => s.at (cadastrelaw19_LexExact_cfg (ρ := ρ) k).live (cadastrelaw19_LexExact_cfg (ρ := ρ) k).boxes (some 2)) (exec UX (cadastrelaw19_LexExact_cfg k) (cadastrelaw19_LexExact_G k) (cadastrelaw19_LexExact_L.getD 0 .skip)) n ⟨[(0, .pv (.typ (.ls v.1))), (3, .pv (.int .i64 v.2))], []⟩ (nrmK UX (cadastrelaw19_LexExact_cfg k) 2 K) = cadastrelaw19_LexExact_l2 k (fun t2 => K .ret ⟨[(2, .pv (.bool t2))], []⟩) (K (.exit 0) ⟨[], []⟩) n v.1 v.2 :=
  iter_rec (X := UX) (fun v => ⟨[(0, .pv (.typ (.ls v.1))), (3, .pv (.int .i64 v.2))], []⟩) (fun rec v => cadastrelaw19_LexExact_l2_b k (fun t2 => K .ret ⟨[(2, .pv (.bool t2))], []⟩) (K (.exit 0) ⟨[], []⟩) (fun l0 i3 => rec (l0, i3)) v.1 v.2) (fun n v => cadastrelaw19_LexExact_l2 k (fun t2 => K .ret ⟨[(2, .pv (.bool t2))], []⟩) (K (.exit 0) ⟨[], []⟩) n v.1 v.2) (fun n v => by kernel_rfl) (fun _ => rfl) (fun _ _ => rfl)
theorem cadastrelaw19_LexExact_l2_ok0 {ρ : Type} (k : Nat) : IterOK UX (cadastrelaw19_LexExact_cfg (ρ := ρ) k) (cadastrelaw19_LexExact_G k) (cadastrelaw19_LexExact_L.getD 0 .skip) 2 (cadastrelaw19_LexExact_l2_s k) := by
  intro s K r h
  obtain ⟨env, hp⟩ := s
  unfold cadastrelaw19_LexExact_l2_s at h
  replace h := popS_inv h; obtain ⟨v1, e2, rfl, h⟩ := h
  replace h := as_ls_inv h; obtain ⟨l0, rfl, h⟩ := h
  replace h := popS_inv h; obtain ⟨v3, e4, rfl, h⟩ := h
  replace h := asI_inv h; obtain ⟨i3, rfl, h⟩ := h
  replace h := popN_inv h; obtain ⟨rfl, h⟩ := h
  replace h := popN_inv h; obtain ⟨rfl, h⟩ := h
  exact ⟨k, (cadastrelaw19_LexExact_l2_eq0 k K k (l0, i3)).trans h⟩
theorem cadastrelaw19_LexExact_j4_eq0 {ρ : Type} (k : Nat) (K : Ex → St UU → Option ρ) (l0 : List ByteArray) (i3 : Int) : exec UX (cadastrelaw19_LexExact_cfg k) (cadastrelaw19_LexExact_G k) (cadastrelaw19_LexExact_J.getD 0 .skip) ⟨[(0, .pv (.typ (.ls l0))), (3, .pv (.int .i64 i3))], []⟩ (nrmK UX (cadastrelaw19_LexExact_cfg k) 4 K) = cadastrelaw19_LexExact_j4 k (fun t2 => K .ret ⟨[(2, .pv (.bool t2))], []⟩) (fun l0 i3 => K .nxt ⟨[(0, .pv (.typ (.ls l0))), (3, .pv (.int .i64 i3))], []⟩) l0 i3 := by kernel_rfl
theorem cadastrelaw19_LexExact_j4_ok0 {ρ : Type} (k : Nat) : JoinOK UX (cadastrelaw19_LexExact_cfg (ρ := ρ) k) (cadastrelaw19_LexExact_G k) (cadastrelaw19_LexExact_J.getD 0 .skip) 4 (cadastrelaw19_LexExact_j4_s k) := by
  intro s K r h
  obtain ⟨env, hp⟩ := s
  unfold cadastrelaw19_LexExact_j4_s at h
  replace h := popS_inv h; obtain ⟨v1, e2, rfl, h⟩ := h
  replace h := as_ls_inv h; obtain ⟨l0, rfl, h⟩ := h
  replace h := popS_inv h; obtain ⟨v3, e4, rfl, h⟩ := h
  replace h := asI_inv h; obtain ⟨i3, rfl, h⟩ := h
  replace h := popN_inv h; obtain ⟨rfl, h⟩ := h
  replace h := popN_inv h; obtain ⟨rfl, h⟩ := h
  exact (cadastrelaw19_LexExact_j4_eq0 k K l0 i3).trans h
theorem cadastrelaw19_LexExact_cok {ρ : Type} (k : Nat) : COK (cadastrelaw19_LexExact_cfg (ρ := ρ) k) (cadastrelaw19_LexExact_G k) cadastrelaw19_LexExact_code :=
  cok_of (tl := [(2, cadastrelaw19_LexExact_l2_s k)]) (tj := [(4, cadastrelaw19_LexExact_j4_s k)]) (tb := []) rfl rfl rfl (all_nth 1 (by kernel_rfl) ⟨iter_case (by kernel_rfl) rfl (cadastrelaw19_LexExact_l2_ok0 k), trivial⟩) (all_nth 1 (by kernel_rfl) ⟨join_case (by kernel_rfl) rfl (cadastrelaw19_LexExact_j4_ok0 k), trivial⟩) (fun p hp => by cases hp)
noncomputable def cadastrelaw19_LexExact_enc (r : Bool) : AV UU := .pv (.bool r)
noncomputable def cadastrelaw19_LexExact_dec (v : AV UU) (_ : List (List (AV UU))) : Option Bool :=
asB v fun r0 =>
some r0
theorem cadastrelaw19_LexExact_dec_enc (v : AV UU) (b : List (List (AV UU))) (r : Bool) (h : cadastrelaw19_LexExact_dec v b = some r) : v = cadastrelaw19_LexExact_enc r := by
  unfold cadastrelaw19_LexExact_dec at h
  replace h := asB_inv h; obtain ⟨r0, rfl, h⟩ := h
  cases h
  rfl
theorem cadastrelaw19_LexExact_eq (k : Nat) (l0 : List ByteArray) : bodyK UX (cadastrelaw19_LexExact_cfg k) (cadastrelaw19_LexExact_G k) Try.f9 [.pv (.typ (.ls l0))] [] cadastrelaw19_LexExact_dec = cadastrelaw19_LexExact k l0 := by kernel_rfl
theorem cadastrelaw19_LexExact_con (k : Nat) (l0 : List ByteArray) (r : Bool) (h : cadastrelaw19_LexExact k l0 = some r) : Con (X := UX) Try.prog 9 [.pv (.typ (.ls l0))] [] (cadastrelaw19_LexExact_enc r) [] :=
  con_of_body xok tok Try.func9 cadastrelaw19_LexExact_body (cadastrelaw19_LexExact_gok k) rfl (cadastrelaw19_LexExact_cok k) (of_decide_eq_true (by kernel_rfl)) cadastrelaw19_LexExact_dec_enc ((cadastrelaw19_LexExact_eq k l0).trans h)
noncomputable def cadastrelaw19_LexExact_an {ρ : Type} (k : Nat) : An UX ρ := fun args bx K =>
popA args fun v1 a2 =>
as_ls v1 fun l0 =>
popN a2 <|
popN bx <|
(cadastrelaw19_LexExact k l0).bind fun r => K (cadastrelaw19_LexExact_enc r) []
theorem cadastrelaw19_LexExact_ok {ρ : Type} (k : Nat) : AnsOK Try.prog 9 (cadastrelaw19_LexExact_an (ρ := ρ) k) := by
  intro args bx K r h
  unfold cadastrelaw19_LexExact_an at h
  replace h := popA_inv h; obtain ⟨v1, a2, rfl, h⟩ := h
  replace h := as_ls_inv h; obtain ⟨l0, rfl, h⟩ := h
  replace h := popN_inv h; obtain ⟨rfl, h⟩ := h
  replace h := popN_inv h; obtain ⟨rfl, h⟩ := h
  replace h := bind_inv h
  obtain ⟨x, hx, h⟩ := h
  exact ⟨there_of Try.func9 (by kernel_rfl) cadastrelaw19_LexExact_body, _, _, h, cadastrelaw19_LexExact_con k l0 x hx⟩
end Go.Proofs.Ytekjibpkkgldgaa.X
