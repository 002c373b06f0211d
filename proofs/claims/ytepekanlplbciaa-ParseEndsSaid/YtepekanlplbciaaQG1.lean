/-
  What the program's functions answer: the printed functions' answers.
-/
import Derived.Test.YtepekanlplbciaaQG0
namespace Go.Proofs.Ytepekanlplbciaa.Q
open Go Go.AX
section
variable {ρ : Type}
/-! (*cadastre/parse.reader).create -/
noncomputable def c46_a := Dc.cons0 (Dc.p 1000 0) <| A0
noncomputable def c46_b := Dc.cons b43 <| B0
noncomputable def c46_d := Dc.two p_s28.pv (Dc.last b43)
noncomputable def c46_G (k : Nat) : GP UX Try.prog ρ := gC 13 (c33_A k) <| gC 28 (c35_A k) <| gC 49 (c40_A k) <| gC 14 (c41_A k) <| gC 27 (c36_A k) <| gC 53 (c45_A k) <| gC 32 (c34_A k) <| gN
noncomputable def c46l17 := Dc.st (Dc.at0 1 (Dc.rp 1000) <| Dc.at0 2 (Dc.p 2 0) <| Dc.at_ 56 o_ls <| Dc.at_ 57 pi_i64.pv <| Dc.at_ 58 pi_i64.pv <| E0) (Dc.at_ 2 (Dc.cons pi_i64.pv <| Dc.cons ps.pv <| Dc.cons ps.pv <| Dc.cons pb.pv <| Dc.cons o_l64 <| Dc.cons p_ls.pv <| Dc.cons p_ll69.pv <| Dc.cons p_l71.pv <| Dc.cons p_ls.pv <| Dc.cons pb.pv <| Dc.cons p_l69.pv <| Dc.cons p_l69.pv <| Dc.cons p_l75.pv <| A0) <| Dc.at_ 1000 b43 <| H0)
noncomputable def c46y0 (K : Ex → St UU → Option ρ) (s2_0 : Int) (s2_1 : ByteArray) (s2_2 : ByteArray) (s2_3 : Bool) (s2_4 : List SColumn) (s2_5 : List ByteArray) (s2_6 : List (List TExpr)) (s2_7 : List SSet) (s2_8 : List ByteArray) (s2_9 : Bool) (s2_10 : List TExpr) (s2_11 : List TExpr) (s2_12 : List SOrder) (t1000 : Sreader) : Option ρ := K (.exit 1) ⟨[(1, .rp 1000), (2, .ptr 2 0)], [(2, [.pv (.int .i64 s2_0), .pv (.str s2_1), .pv (.str s2_2), .pv (.bool s2_3), .own (.l64 s2_4), .pv (.typ (.ls s2_5)), .pv (.typ (.ll69 s2_6)), .pv (.typ (.l71 s2_7)), .pv (.typ (.ls s2_8)), .pv (.bool s2_9), .pv (.typ (.l69 s2_10)), .pv (.typ (.l69 s2_11)), .pv (.typ (.l75 s2_12))]), (1000, b43.enc t1000)]⟩
noncomputable def c46l17f (k : Nat) (K : Ex → St UU → Option ρ) (n : Nat) (v : c46l17.T) : Option ρ := parse_reader_create_p0_l17 k (c46y0 K) n v.1.1 v.1.2.1 v.1.2.2.1 v.2.1.1 v.2.1.2.1 v.2.1.2.2.1 v.2.1.2.2.2.1 v.2.1.2.2.2.2.1 v.2.1.2.2.2.2.2.1 v.2.1.2.2.2.2.2.2.1 v.2.1.2.2.2.2.2.2.2.1 v.2.1.2.2.2.2.2.2.2.2.1 v.2.1.2.2.2.2.2.2.2.2.2.1 v.2.1.2.2.2.2.2.2.2.2.2.2.1 v.2.1.2.2.2.2.2.2.2.2.2.2.2.1 v.2.1.2.2.2.2.2.2.2.2.2.2.2.2.1 v.2.2.1
noncomputable def c46_c (k : Nat) : Cfg UX ρ := cfgOf UX ρ 77 [(0, [0]), (1, [1, 2]), (2, [1, 2]), (3, [1, 2]), (4, [1, 2]), (5, [1, 2]), (6, [1, 2]), (7, [1, 2]), (8, [1, 2]), (9, [1, 2]), (10, [1, 2]), (11, [1, 2]), (12, [1, 2]), (13, [1, 2]), (14, [1, 2]), (15, [1, 2]), (16, [1, 2]), (17, [1, 2, 56, 57, 58]), (18, [1, 2, 56, 57, 58]), (19, [1, 2, 4, 56, 57, 58]), (20, [1, 2, 56, 57, 58]), (21, [1, 2]), (22, [1, 2]), (23, [2])] [(1, [2]), (2, [2]), (3, [2]), (4, [2]), (5, [2]), (6, [2]), (7, [2]), (8, [2]), (9, [2]), (10, [2]), (11, [2]), (12, [2]), (13, [2]), (14, [2]), (15, [2]), (16, [2]), (17, [2]), (18, [2]), (19, [2]), (20, [2]), (21, [2]), (22, [2]), (23, [2])] (tk := [(1000002, [35]), (4000001, [1]), (5000001, [51]), (5000002, [4]), (5000003, [71])]) (loops := [(17, runD_ ρ c46l17 fun K => c46l17f k K k)]) (xe := [(17, [(1, [1, 2], [2])])])
noncomputable def c46_L : List Code := selI [17] (loopsOf (bodyOf Try.f24))
theorem c46l17i0 (k : Nat) : IterOK UX (c46_c (ρ := ρ) k) (c46_G k).1 (c46_L.getD 0 .skip) 17 (runD_ ρ c46l17 fun K => c46l17f k K k) := iterD (X := UX) (k := k) c46l17 (c46l17f k) (fun K rec v => parse_reader_create_p0_l17_b k (c46y0 K) (fun t56 t57 t58 s2_0 s2_1 s2_2 s2_3 s2_4 s2_5 s2_6 s2_7 s2_8 s2_9 s2_10 s2_11 s2_12 t1000 => rec ((t56, t57, t58, ()), (s2_0, s2_1, s2_2, s2_3, s2_4, s2_5, s2_6, s2_7, s2_8, s2_9, s2_10, s2_11, s2_12, ()), t1000, ())) v.1.1 v.1.2.1 v.1.2.2.1 v.2.1.1 v.2.1.2.1 v.2.1.2.2.1 v.2.1.2.2.2.1 v.2.1.2.2.2.2.1 v.2.1.2.2.2.2.2.1 v.2.1.2.2.2.2.2.2.1 v.2.1.2.2.2.2.2.2.2.1 v.2.1.2.2.2.2.2.2.2.2.1 v.2.1.2.2.2.2.2.2.2.2.2.1 v.2.1.2.2.2.2.2.2.2.2.2.2.1 v.2.1.2.2.2.2.2.2.2.2.2.2.2.1 v.2.1.2.2.2.2.2.2.2.2.2.2.2.2.1 v.2.2.1) (fun K n v => by kernel_rfl) (fun _ _ => rfl) fun _ _ _ => rfl
theorem c46_k (k : Nat) : COK (c46_c (ρ := ρ) k) (c46_G k).1 (bodyOf Try.f24) :=
  cok_of (tl := [(17, runD_ ρ c46l17 fun K => c46l17f k K k)]) (tj := []) (tb := []) rfl rfl rfl (all_nth 1 (by kernel_rfl) ⟨iter_case (by kernel_rfl) rfl (c46l17i0 k), trivial⟩) (nil_all (by kernel_rfl)) (fun p hp => by cases hp)
theorem c46_n (k : Nat) : ConD (X := UX) Try.prog 24 c46_a c46_b c46_d (fun a b => parse_reader_create_p0 k b.1) := conD xok tok Try.func24 (by kernel_rfl) (g := c46_G k) (c := c46_c k) rfl (c46_k k) (fun _ => by kernel_rfl) fun a b => by kernel_rfl
noncomputable def c46_A (k : Nat) : AP UX Try.prog ρ 24 := apD Try.func24 (by kernel_rfl) c46_a c46_b c46_d _ (c46_n k)


/-! (*cadastre/parse.reader).drop -/
noncomputable def c47_a := Dc.cons0 (Dc.p 1000 0) <| A0
noncomputable def c47_b := Dc.cons b43 <| B0
noncomputable def c47_d := Dc.two p_s28.pv (Dc.last b43)
noncomputable def c47_G (k : Nat) : GP UX Try.prog ρ := gC 13 (c33_A k) <| gC 28 (c35_A k) <| gC 27 (c36_A k) <| gN
noncomputable def c47_c (k : Nat) : Cfg UX ρ := cfgOf UX ρ 15 [(0, [0]), (1, [0, 2]), (2, [0, 2, 3]), (3, [0, 2, 3]), (4, [0, 2, 3]), (5, [0, 2, 3]), (6, [2, 3])] [(1, [2]), (2, [2, 3]), (3, [2, 3]), (4, [2, 3]), (5, [2, 3]), (6, [2, 3])]
theorem c47_n (k : Nat) : ConD (X := UX) Try.prog 25 c47_a c47_b c47_d (fun a b => parse_reader_drop_p0 k b.1) := conD xok tok Try.func25 (by kernel_rfl) (g := c47_G k) (c := c47_c k) rfl (cok0 rfl rfl rfl) (fun _ => by kernel_rfl) fun a b => by kernel_rfl
noncomputable def c47_A (k : Nat) : AP UX Try.prog ρ 25 := apD Try.func25 (by kernel_rfl) c47_a c47_b c47_d _ (c47_n k)


/-! cadastre/parse.tests -/
noncomputable def c48_a := A0
noncomputable def c48_d := one_ o_l109
noncomputable def c48_G (k : Nat) : GP UX Try.prog ρ := gN
noncomputable def c48_c (k : Nat) : Cfg UX ρ := cfgOf UX ρ 8 [] [] (tk := [(1000000, [0])])
theorem c48_n (k : Nat) : ConD (X := UX) Try.prog 86 c48_a B0 c48_d (fun a b => parse_tests k) := conD xok tok Try.func86 (by kernel_rfl) (g := c48_G k) (c := c48_c k) rfl (cok0 rfl rfl rfl) (fun _ => by kernel_rfl) fun a b => by kernel_rfl
noncomputable def c48_A (k : Nat) : AP UX Try.prog ρ 86 := apD Try.func86 (by kernel_rfl) c48_a B0 c48_d _ (c48_n k)


/-! (*cadastre/parse.reader).node -/
noncomputable def c49_a := Dc.cons0 (Dc.p 1000 0) <| Dc.cons p_s69.pv <| A0
noncomputable def c49_b := Dc.cons b43 <| B0
noncomputable def c49_d := Dc.two p_s69.pv (Dc.last b43)
noncomputable def c49_G (k : Nat) : GP UX Try.prog ρ := gN
noncomputable def c49_c (k : Nat) : Cfg UX ρ := cfgOf UX ρ 13 [(0, [0, 1]), (1, [0, 3, 4]), (2, [3, 4])] [(1, [3, 4]), (2, [3, 4])]
theorem c49_n (k : Nat) : ConD (X := UX) Try.prog 81 c49_a c49_b c49_d (fun a b => parse_reader_node_p0 k a.1 b.1) := conD xok tok Try.func81 (by kernel_rfl) (g := c49_G k) (c := c49_c k) rfl (cok0 rfl rfl rfl) (fun _ => by kernel_rfl) fun a b => by kernel_rfl
noncomputable def c49_A (k : Nat) : AP UX Try.prog ρ 81 := apD Try.func81 (by kernel_rfl) c49_a c49_b c49_d _ (c49_n k)


/-! cadastre/value.Int -/
noncomputable def c50_a := Dc.cons pi_i64.pv <| A0
noncomputable def c50_d := one_ p_s67.pv
noncomputable def c50_G (k : Nat) : GP UX Try.prog ρ := gN
noncomputable def c50_c (k : Nat) : Cfg UX ρ := cfgOf UX ρ 5 [(0, [0]), (1, [0, 2])] [(1, [2])]
theorem c50_n (k : Nat) : ConD (X := UX) Try.prog 94 c50_a B0 c50_d (fun a b => value_Int k a.1) := conD xok tok Try.func94 (by kernel_rfl) (g := c50_G k) (c := c50_c k) rfl (cok0 rfl rfl rfl) (fun _ => by kernel_rfl) fun a b => by kernel_rfl
noncomputable def c50_A (k : Nat) : AP UX Try.prog ρ 94 := apD Try.func94 (by kernel_rfl) c50_a B0 c50_d _ (c50_n k)


/-! cadastre/value.Text -/
noncomputable def c51_a := Dc.cons ps.pv <| A0
noncomputable def c51_d := one_ p_s67.pv
noncomputable def c51_G (k : Nat) : GP UX Try.prog ρ := gN
noncomputable def c51_c (k : Nat) : Cfg UX ρ := cfgOf UX ρ 5 [(0, [0]), (1, [0, 2])] [(1, [2])]
theorem c51_n (k : Nat) : ConD (X := UX) Try.prog 95 c51_a B0 c51_d (fun a b => value_Text k a.1) := conD xok tok Try.func95 (by kernel_rfl) (g := c51_G k) (c := c51_c k) rfl (cok0 rfl rfl rfl) (fun _ => by kernel_rfl) fun a b => by kernel_rfl
noncomputable def c51_A (k : Nat) : AP UX Try.prog ρ 95 := apD Try.func95 (by kernel_rfl) c51_a B0 c51_d _ (c51_n k)


/-! cadastre/lex.Value -/
noncomputable def c52_a := Dc.cons p_s56.pv <| A0
noncomputable def c52_d := one_ p_s67.pv
noncomputable def c52_G (k : Nat) : GP UX Try.prog ρ := gC 94 (c50_A k) <| gC 95 (c51_A k) <| gN
noncomputable def c52_c (k : Nat) : Cfg UX ρ := cfgOf UX ρ 18 [(0, [0]), (1, [1, 2]), (2, [1, 2, 4]), (3, [1, 2]), (4, [1, 2, 4]), (5, [1, 2]), (6, [1, 2])] [(1, [1, 2]), (2, [1, 2]), (3, [1, 2]), (4, [1, 2]), (5, [1, 2]), (6, [1, 2])]
theorem c52_n (k : Nat) : ConD (X := UX) Try.prog 91 c52_a B0 c52_d (fun a b => lex_Value k a.1) := conD xok tok Try.func91 (by kernel_rfl) (g := c52_G k) (c := c52_c k) rfl (cok0 rfl rfl rfl) (fun _ => by kernel_rfl) fun a b => by kernel_rfl
noncomputable def c52_A (k : Nat) : AP UX Try.prog ρ 91 := apD Try.func91 (by kernel_rfl) c52_a B0 c52_d _ (c52_n k)


/-! cadastre/parse.functions -/
noncomputable def parse_functions_code : Code := match Try.f93.body with | some c => c | none => .skip
theorem parse_functions_body : Try.f93.body = some parse_functions_code := by kernel_rfl
noncomputable def parse_functions_enc (r : Unit) : AV UU := .pv (.mp [((⟨#[108, 101, 110, 103, 116, 104]⟩ : ByteArray), (7 : Int)), ((⟨#[116, 121, 112, 101, 111, 102]⟩ : ByteArray), (8 : Int)), ((⟨#[115, 117, 109]⟩ : ByteArray), (24 : Int)), ((⟨#[109, 105, 110]⟩ : ByteArray), (25 : Int)), ((⟨#[109, 97, 120]⟩ : ByteArray), (26 : Int))])
open Go.RowKit in
set_option maxRecDepth 100000 in
set_option maxHeartbeats 1000000 in
theorem parse_functions_con (k : Nat) (r : Unit) (h : parse_functions k = some r) : Con (X := UX) Try.prog 93 [] [] (parse_functions_enc r) [] := by
  unfold parse_functions at h
  exact con_map xok fun w => by
    have hu : Try.prog.underlying 115 = some (.map 9 3) := by kernel_rfl
    have hk : Try.prog.underlying 9 = some .string := by kernel_rfl
    go_enter Try.func93, Try.ntmps93
    go_wp2
    rw [show Sem.run Try.prog (Instr.makeMap 115 none) w = _ from run_makeMap0 115 w]
    simp only [Result.andThen]
    rw [Oper.upon_value]
    go_wp2
    rw [run_insert hu hk (by kernel_rfl)]
    simp only [Result.andThen]
    rw [Oper.upon_skip]
    go_wp2
    rw [run_insert hu hk (by kernel_rfl)]
    simp only [Result.andThen]
    rw [Oper.upon_skip]
    go_wp2
    rw [run_insert hu hk (by kernel_rfl)]
    simp only [Result.andThen]
    rw [Oper.upon_skip]
    go_wp2
    rw [run_insert hu hk (by kernel_rfl)]
    simp only [Result.andThen]
    rw [Oper.upon_skip]
    go_wp2
    rw [run_insert hu hk (by kernel_rfl)]
    simp only [Result.andThen]
    rw [Oper.upon_skip]
    go_wp2
    go_ret
    exact ⟨_, _, rfl, rfl, by simp⟩
noncomputable def c53_a := A0
noncomputable def c53_d := one_ (Dc.const (parse_functions_enc ()))
theorem c53_n (k : Nat) : ConD (X := UX) Try.prog 93 c53_a B0 c53_d (fun a b => parse_functions k) := fun a b r h => parse_functions_con k r h
noncomputable def c53_A (k : Nat) : AP UX Try.prog ρ 93 := apD Try.func93 (by kernel_rfl) c53_a B0 c53_d _ (c53_n k)

abbrev c54 := parse_reader_expr_p0_R
noncomputable def c55_a := Dc.cons0 (Dc.p 1000 0) <| A0
noncomputable def c55_b := Dc.cons b43 <| B0
noncomputable def c55_d := Dc.two p_s69.pv (Dc.last b43)
noncomputable def c56_a := Dc.cons0 (Dc.p 1000 0) <| Dc.cons (Dc.fn 71 (Dc.cons0 (Dc.sp 1000 0) <| V0) (V0)) <| A0
noncomputable def c56_b := Dc.cons b43 <| B0
noncomputable def c56_d := Dc.two p_s69.pv (Dc.last b43)
noncomputable def c57_a := Dc.cons0 (Dc.p 1000 0) <| A0
noncomputable def c57_b := Dc.cons b43 <| B0
noncomputable def c57_d := Dc.two p_s69.pv (Dc.last b43)
noncomputable def c58_a := Dc.cons0 (Dc.p 1000 0) <| A0
noncomputable def c58_b := Dc.cons b43 <| B0
noncomputable def c58_d := Dc.two p_s69.pv (Dc.last b43)
noncomputable def c59_a := Dc.cons0 (Dc.p 1000 0) <| A0
noncomputable def c59_b := Dc.cons b43 <| B0
noncomputable def c59_d := Dc.two p_s69.pv (Dc.last b43)
noncomputable def c60_a := Dc.cons0 (Dc.p 1000 0) <| Dc.cons (Dc.fn 89 (Dc.cons0 (Dc.sp 1000 0) <| V0) (V0)) <| Dc.cons p_l109.pv <| A0
noncomputable def c60_b := Dc.cons b43 <| B0
noncomputable def c60_d := Dc.two p_s69.pv (Dc.last b43)
noncomputable def c61_a := Dc.cons0 (Dc.p 1000 0) <| A0
noncomputable def c61_b := Dc.cons b43 <| B0
noncomputable def c61_d := Dc.two p_s69.pv (Dc.last b43)
noncomputable def c62_a := Dc.cons0 (Dc.p 1000 0) <| Dc.cons (Dc.fn 88 (Dc.cons0 (Dc.sp 1000 0) <| V0) (V0)) <| Dc.cons p_l109.pv <| A0
noncomputable def c62_b := Dc.cons b43 <| B0
noncomputable def c62_d := Dc.two p_s69.pv (Dc.last b43)
noncomputable def c63_a := Dc.cons0 (Dc.p 1000 0) <| A0
noncomputable def c63_b := Dc.cons b43 <| B0
noncomputable def c63_d := Dc.two p_s69.pv (Dc.last b43)
noncomputable def c64_a := Dc.cons0 (Dc.p 1000 0) <| Dc.cons (Dc.fn 87 (Dc.cons0 (Dc.sp 1000 0) <| V0) (V0)) <| Dc.cons p_l109.pv <| A0
noncomputable def c64_b := Dc.cons b43 <| B0
noncomputable def c64_d := Dc.two p_s69.pv (Dc.last b43)
noncomputable def c65_a := Dc.cons0 (Dc.p 1000 0) <| A0
noncomputable def c65_b := Dc.cons b43 <| B0
noncomputable def c65_d := Dc.two p_s69.pv (Dc.last b43)
noncomputable def c66_a := Dc.cons0 (Dc.p 1000 0) <| A0
noncomputable def c66_b := Dc.cons b43 <| B0
noncomputable def c66_d := Dc.two p_s69.pv (Dc.last b43)
noncomputable def c67_a := Dc.cons0 (Dc.p 1000 0) <| A0
noncomputable def c67_b := Dc.cons b43 <| B0
noncomputable def c67_d := Dc.two p_s69.pv (Dc.last b43)
noncomputable def c68_a := Dc.cons0 (Dc.p 1000 0) <| Dc.cons (Dc.fn 82 (Dc.cons0 (Dc.sp 1000 0) <| V0) (V0)) <| Dc.cons p_l109.pv <| A0
noncomputable def c68_b := Dc.cons b43 <| B0
noncomputable def c68_d := Dc.two p_s69.pv (Dc.last b43)
noncomputable def c69_a := Dc.cons0 (Dc.p 1000 0) <| A0
noncomputable def c69_b := Dc.cons b43 <| B0
noncomputable def c69_d := Dc.two p_s69.pv (Dc.last b43)
noncomputable def c70_a := Dc.cons0 (Dc.p 1000 0) <| Dc.cons (Dc.fn 77 (Dc.cons0 (Dc.sp 1000 0) <| V0) (V0)) <| Dc.cons p_l109.pv <| A0
noncomputable def c70_b := Dc.cons b43 <| B0
noncomputable def c70_d := Dc.two p_s69.pv (Dc.last b43)
structure c54_ok (rc : c54) : Prop where
  c55 : ConD (X := UX) Try.prog 71 c55_a c55_b c55_d (fun a b => rc.parse_reader_expr_p0 b.1)
  c56 : ConD (X := UX) Try.prog 96 c56_a c56_b c56_d (fun a b => rc.parse_in_api_Expr__p0_fexpr b.1)
  c57 : ConD (X := UX) Try.prog 92 c57_a c57_b c57_d (fun a b => rc.parse_reader_inside_p0 b.1)
  c58 : ConD (X := UX) Try.prog 90 c58_a c58_b c58_d (fun a b => rc.parse_reader_closest_p0 b.1)
  c59 : ConD (X := UX) Try.prog 89 c59_a c59_b c59_d (fun a b => rc.parse_reader_negative_p0 b.1)
  c60 : ConD (X := UX) Try.prog 76 c60_a c60_b c60_d (fun a b => rc.parse_reader_left_p0_fnegative a.2.1 b.1)
  c61 : ConD (X := UX) Try.prog 88 c61_a c61_b c61_d (fun a b => rc.parse_reader_concat_p0 b.1)
  c62 : ConD (X := UX) Try.prog 76 c62_a c62_b c62_d (fun a b => rc.parse_reader_left_p0_fconcat a.2.1 b.1)
  c63 : ConD (X := UX) Try.prog 87 c63_a c63_b c63_d (fun a b => rc.parse_reader_product_p0 b.1)
  c64 : ConD (X := UX) Try.prog 76 c64_a c64_b c64_d (fun a b => rc.parse_reader_left_p0_fproduct a.2.1 b.1)
  c65 : ConD (X := UX) Try.prog 85 c65_a c65_b c65_d (fun a b => rc.parse_reader_sum_p0 b.1)
  c66 : ConD (X := UX) Try.prog 84 c66_a c66_b c66_d (fun a b => rc.parse_reader_test_p0 b.1)
  c67 : ConD (X := UX) Try.prog 82 c67_a c67_b c67_d (fun a b => rc.parse_reader_not_p0 b.1)
  c68 : ConD (X := UX) Try.prog 76 c68_a c68_b c68_d (fun a b => rc.parse_reader_left_p0_fnot a.2.1 b.1)
  c69 : ConD (X := UX) Try.prog 77 c69_a c69_b c69_d (fun a b => rc.parse_reader_and_p0 b.1)
  c70 : ConD (X := UX) Try.prog 76 c70_a c70_b c70_d (fun a b => rc.parse_reader_left_p0_fand a.2.1 b.1)
noncomputable def c55_A0 {rc : c54} (hrc : c54_ok rc) : AP UX Try.prog ρ 71 := apD Try.func71 (by kernel_rfl) c55_a c55_b c55_d _ hrc.c55
noncomputable def c56_A0 {rc : c54} (hrc : c54_ok rc) : AP UX Try.prog ρ 96 := apD Try.func96 (by kernel_rfl) c56_a c56_b c56_d _ hrc.c56
noncomputable def c57_A0 {rc : c54} (hrc : c54_ok rc) : AP UX Try.prog ρ 92 := apD Try.func92 (by kernel_rfl) c57_a c57_b c57_d _ hrc.c57
noncomputable def c58_A0 {rc : c54} (hrc : c54_ok rc) : AP UX Try.prog ρ 90 := apD Try.func90 (by kernel_rfl) c58_a c58_b c58_d _ hrc.c58
noncomputable def c59_A0 {rc : c54} (hrc : c54_ok rc) : AP UX Try.prog ρ 89 := apD Try.func89 (by kernel_rfl) c59_a c59_b c59_d _ hrc.c59
noncomputable def c60_A0 {rc : c54} (hrc : c54_ok rc) : AP UX Try.prog ρ 76 := apD Try.func76 (by kernel_rfl) c60_a c60_b c60_d _ hrc.c60
noncomputable def c61_A0 {rc : c54} (hrc : c54_ok rc) : AP UX Try.prog ρ 88 := apD Try.func88 (by kernel_rfl) c61_a c61_b c61_d _ hrc.c61
noncomputable def c62_A0 {rc : c54} (hrc : c54_ok rc) : AP UX Try.prog ρ 76 := apD Try.func76 (by kernel_rfl) c62_a c62_b c62_d _ hrc.c62
noncomputable def c63_A0 {rc : c54} (hrc : c54_ok rc) : AP UX Try.prog ρ 87 := apD Try.func87 (by kernel_rfl) c63_a c63_b c63_d _ hrc.c63
noncomputable def c64_A0 {rc : c54} (hrc : c54_ok rc) : AP UX Try.prog ρ 76 := apD Try.func76 (by kernel_rfl) c64_a c64_b c64_d _ hrc.c64
noncomputable def c65_A0 {rc : c54} (hrc : c54_ok rc) : AP UX Try.prog ρ 85 := apD Try.func85 (by kernel_rfl) c65_a c65_b c65_d _ hrc.c65
noncomputable def c66_A0 {rc : c54} (hrc : c54_ok rc) : AP UX Try.prog ρ 84 := apD Try.func84 (by kernel_rfl) c66_a c66_b c66_d _ hrc.c66
noncomputable def c67_A0 {rc : c54} (hrc : c54_ok rc) : AP UX Try.prog ρ 82 := apD Try.func82 (by kernel_rfl) c67_a c67_b c67_d _ hrc.c67
noncomputable def c68_A0 {rc : c54} (hrc : c54_ok rc) : AP UX Try.prog ρ 76 := apD Try.func76 (by kernel_rfl) c68_a c68_b c68_d _ hrc.c68
noncomputable def c69_A0 {rc : c54} (hrc : c54_ok rc) : AP UX Try.prog ρ 77 := apD Try.func77 (by kernel_rfl) c69_a c69_b c69_d _ hrc.c69
noncomputable def c70_A0 {rc : c54} (hrc : c54_ok rc) : AP UX Try.prog ρ 76 := apD Try.func76 (by kernel_rfl) c70_a c70_b c70_d _ hrc.c70

/-! (*cadastre/parse.reader).expr -/
noncomputable def c55_G (k : Nat) (rc : c54) (hrc : c54_ok rc) : GP UX Try.prog ρ := gC 76 (c70_A0 hrc) <| gN
noncomputable def c55_c (k : Nat) (rc : c54) : Cfg UX ρ := cfgOf UX ρ 9 [(0, [0]), (1, [0, 2])] [(1, [2])]
theorem c55_n0 (k : Nat) (rc : c54) (hrc : c54_ok rc) : ConD (X := UX) Try.prog 71 c55_a c55_b c55_d (fun a b => parse_reader_expr_p0_r k rc b.1) := conD xok tok Try.func71 (by kernel_rfl) (g := c55_G k rc hrc) (c := c55_c k rc) rfl (cok0 rfl rfl rfl) (fun _ => by kernel_rfl) fun a b => by kernel_rfl

/-! cadastre/parse.in[cadastre/api.Expr] -/
noncomputable def c56_G (k : Nat) (rc : c54) (hrc : c54_ok rc) : GP UX Try.prog ρ := gC 27 (c36_A k) <| gC 71 (c55_A0 hrc) <| gN
noncomputable def c56_c (k : Nat) (rc : c54) : Cfg UX ρ := cfgOf UX ρ 15 [(0, [0, 1]), (1, [0, 1, 4]), (2, [0, 1, 4]), (3, [0, 4, 5]), (4, [4, 5])] [(1, [4]), (2, [4]), (3, [4, 5]), (4, [4, 5])]
theorem c56_n0 (k : Nat) (rc : c54) (hrc : c54_ok rc) : ConD (X := UX) Try.prog 96 c56_a c56_b c56_d (fun a b => parse_in_api_Expr__p0_fexpr_r k rc b.1) := conD xok tok Try.func96 (by kernel_rfl) (g := c56_G k rc hrc) (c := c56_c k rc) rfl (cok0 rfl rfl rfl) (fun _ => by kernel_rfl) fun a b => by kernel_rfl

/-! (*cadastre/parse.reader).inside -/
noncomputable def c57_G (k : Nat) (rc : c54) (hrc : c54_ok rc) : GP UX Try.prog ρ := gC 14 (c41_A k) <| gC 96 (c56_A0 hrc) <| gN
noncomputable def c57_c (k : Nat) (rc : c54) : Cfg UX ρ := cfgOf UX ρ 29 [(0, [0]), (1, [0, 2]), (2, [0, 2]), (3, [0, 2]), (4, [0, 2, 3]), (5, [2, 3])] [(1, [2]), (2, [2]), (3, [2]), (4, [2, 3]), (5, [2, 3])]
theorem c57_n0 (k : Nat) (rc : c54) (hrc : c54_ok rc) : ConD (X := UX) Try.prog 92 c57_a c57_b c57_d (fun a b => parse_reader_inside_p0_r k rc b.1) := conD xok tok Try.func92 (by kernel_rfl) (g := c57_G k rc hrc) (c := c57_c k rc) rfl (cok0 rfl rfl rfl) (fun _ => by kernel_rfl) fun a b => by kernel_rfl

/-! (*cadastre/parse.reader).closest -/
noncomputable def c58_G (k : Nat) (rc : c54) (hrc : c54_ok rc) : GP UX Try.prog ρ := gC 32 (c34_A k) <| gC 91 (c52_A k) <| gC 81 (c49_A k) <| gC 13 (c33_A k) <| gC 33 (c32_A k) <| gC 92 (c57_A0 hrc) <| gC 14 (c41_A k) <| gC 27 (c36_A k) <| gC 93 (c53_A k) <| gC 28 (c35_A k) <| gN
noncomputable def c58j6 := Dc.st (Dc.at0 0 (Dc.p 1000 0) <| Dc.at0 2 (Dc.p 2 0) <| Dc.at0 3 (Dc.p 3 0) <| E0) (Dc.at_ 2 b69 <| Dc.at_ 3 b56 <| Dc.at_ 1000 b43 <| H0)
noncomputable def c58y0 (K : Ex → St UU → Option ρ) (t2 : SExpr) (t1000 : Sreader) : Option ρ := K .ret ⟨[(2, .ptr 2 0)], [(2, b69.enc t2), (1000, b43.enc t1000)]⟩
noncomputable def c58j6f (k : Nat) (rc : c54) (K : Ex → St UU → Option ρ) (v : c58j6.T) : Option ρ := parse_reader_closest_p0_j6 k rc (c58y0 K) v.2.1 v.2.2.1 v.2.2.2.1
noncomputable def c58j8 := Dc.st (Dc.at0 0 (Dc.p 1000 0) <| Dc.at0 2 (Dc.p 2 0) <| Dc.at0 3 (Dc.p 3 0) <| E0) (Dc.at_ 2 b69 <| Dc.at_ 3 b56 <| Dc.at_ 1000 b43 <| H0)
noncomputable def c58y1 (K : Ex → St UU → Option ρ) (t2 : SExpr) (t3 : SToken) (t1000 : Sreader) : Option ρ := K .nxt ⟨[(0, .ptr 1000 0), (2, .ptr 2 0), (3, .ptr 3 0)], [(2, b69.enc t2), (3, b56.enc t3), (1000, b43.enc t1000)]⟩
noncomputable def c58j8f (k : Nat) (rc : c54) (K : Ex → St UU → Option ρ) (v : c58j8.T) : Option ρ := parse_reader_closest_p0_j8 k rc (c58y0 K) (c58y1 K) v.2.1 v.2.2.1 v.2.2.2.1
noncomputable def c58j18 := Dc.st (Dc.at0 0 (Dc.p 1000 0) <| Dc.at0 2 (Dc.p 2 0) <| Dc.at_ 4 pi_i64.pv <| E0) (Dc.at_ 2 b69 <| Dc.at_ 1000 b43 <| H0)
noncomputable def c58j18f (k : Nat) (rc : c54) (K : Ex → St UU → Option ρ) (v : c58j18.T) : Option ρ := parse_reader_closest_p0_j18 k rc (c58y0 K) v.1.1 v.2.1 v.2.2.1
noncomputable def c58j20 := Dc.st (Dc.at0 0 (Dc.p 1000 0) <| Dc.at0 2 (Dc.p 2 0) <| E0) (Dc.at_ 2 b69 <| Dc.at_ 1000 b43 <| H0)
noncomputable def c58j20f (k : Nat) (rc : c54) (K : Ex → St UU → Option ρ) (v : c58j20.T) : Option ρ := parse_reader_closest_p0_j20 k rc (c58y0 K) v.2.1 v.2.2.1
noncomputable def c58j16 := Dc.st (Dc.at0 0 (Dc.p 1000 0) <| Dc.at0 2 (Dc.p 2 0) <| Dc.at0 3 (Dc.p 3 0) <| E0) (Dc.at_ 2 b69 <| Dc.at_ 3 b56 <| Dc.at_ 1000 b43 <| H0)
noncomputable def c58j16f (k : Nat) (rc : c54) (K : Ex → St UU → Option ρ) (v : c58j16.T) : Option ρ := parse_reader_closest_p0_j16 k rc (c58y0 K) v.2.1 v.2.2.1 v.2.2.2.1
noncomputable def c58j4 := Dc.st (Dc.at0 0 (Dc.p 1000 0) <| Dc.at0 2 (Dc.p 2 0) <| E0) (Dc.at_ 2 b69 <| Dc.at_ 1000 b43 <| H0)
noncomputable def c58j4f (k : Nat) (rc : c54) (K : Ex → St UU → Option ρ) (v : c58j4.T) : Option ρ := parse_reader_closest_p0_j4 k rc (c58y0 K) v.2.1 v.2.2.1
noncomputable def c58_c (k : Nat) (rc : c54) : Cfg UX ρ := cfgOf UX ρ 121 [(0, [0]), (1, [0, 2]), (2, [0, 2]), (3, [2]), (4, [0, 2]), (5, [0, 2, 3]), (6, [0, 2, 3]), (7, [0, 2, 3]), (8, [0, 2, 3]), (9, [0, 2]), (10, [0, 2, 3]), (11, [0, 2]), (12, [0, 2, 3]), (13, [0, 2]), (14, [0, 2]), (15, [0, 2]), (16, [0, 2, 3]), (17, [0, 2, 3, 4]), (18, [0, 2, 4]), (19, [0, 2, 4]), (20, [0, 2]), (21, [0, 2, 5]), (22, [0, 2, 5]), (23, [0, 2, 5])] [(1, [2]), (2, [2]), (3, [2]), (4, [2]), (5, [2, 3]), (6, [2, 3]), (7, [2, 3]), (8, [2, 3]), (9, [2]), (10, [2, 3]), (11, [2]), (12, [2, 3]), (13, [2]), (14, [2]), (15, [2]), (16, [2, 3]), (17, [2, 3]), (18, [2]), (19, [2]), (20, [2]), (21, [2, 5]), (22, [2, 5]), (23, [2, 5])] (joins := [(6, runD_ ρ c58j6 (c58j6f k rc)), (8, runD_ ρ c58j8 (c58j8f k rc)), (18, runD_ ρ c58j18 (c58j18f k rc)), (20, runD_ ρ c58j20 (c58j20f k rc)), (16, runD_ ρ c58j16 (c58j16f k rc)), (4, runD_ ρ c58j4 (c58j4f k rc))]) (xn := [(8, [0, 2, 3], [2, 3])]) (xr := [(6, [2], [2]), (8, [2], [2]), (18, [2], [2]), (20, [2], [2]), (16, [2], [2]), (4, [2], [2])])
noncomputable def c58_J : List Code := selI [6, 8, 18, 20, 16, 4] (joinsOf (bodyOf Try.f90))
theorem c58j4i0 (k : Nat) (rc : c54) (hrc : c54_ok rc) : JoinOK UX (c58_c (ρ := ρ) k rc) (c58_G k rc hrc).1 (c58_J.getD 0 .skip) 4 (runD_ ρ c58j4 (c58j4f k rc)) := joinD (X := UX) c58j4 (c58j4f k rc) fun K v => by kernel_rfl
theorem c58j16i1 (k : Nat) (rc : c54) (hrc : c54_ok rc) : JoinOK UX (c58_c (ρ := ρ) k rc) (c58_G k rc hrc).1 (c58_J.getD 1 .skip) 16 (runD_ ρ c58j16 (c58j16f k rc)) := joinD (X := UX) c58j16 (c58j16f k rc) fun K v => by kernel_rfl
theorem c58j6i2 (k : Nat) (rc : c54) (hrc : c54_ok rc) : JoinOK UX (c58_c (ρ := ρ) k rc) (c58_G k rc hrc).1 (c58_J.getD 2 .skip) 6 (runD_ ρ c58j6 (c58j6f k rc)) := joinD (X := UX) c58j6 (c58j6f k rc) fun K v => by kernel_rfl
theorem c58j8i3 (k : Nat) (rc : c54) (hrc : c54_ok rc) : JoinOK UX (c58_c (ρ := ρ) k rc) (c58_G k rc hrc).1 (c58_J.getD 3 .skip) 8 (runD_ ρ c58j8 (c58j8f k rc)) := joinD (X := UX) c58j8 (c58j8f k rc) fun K v => by kernel_rfl
theorem c58j20i4 (k : Nat) (rc : c54) (hrc : c54_ok rc) : JoinOK UX (c58_c (ρ := ρ) k rc) (c58_G k rc hrc).1 (c58_J.getD 4 .skip) 20 (runD_ ρ c58j20 (c58j20f k rc)) := joinD (X := UX) c58j20 (c58j20f k rc) fun K v => by kernel_rfl
theorem c58j18i5 (k : Nat) (rc : c54) (hrc : c54_ok rc) : JoinOK UX (c58_c (ρ := ρ) k rc) (c58_G k rc hrc).1 (c58_J.getD 5 .skip) 18 (runD_ ρ c58j18 (c58j18f k rc)) := joinD (X := UX) c58j18 (c58j18f k rc) fun K v => by kernel_rfl
theorem c58_k (k : Nat) (rc : c54) (hrc : c54_ok rc) : COK (c58_c (ρ := ρ) k rc) (c58_G k rc hrc).1 (bodyOf Try.f90) :=
  cok_of (tl := []) (tj := [(6, runD_ ρ c58j6 (c58j6f k rc)), (8, runD_ ρ c58j8 (c58j8f k rc)), (18, runD_ ρ c58j18 (c58j18f k rc)), (20, runD_ ρ c58j20 (c58j20f k rc)), (16, runD_ ρ c58j16 (c58j16f k rc)), (4, runD_ ρ c58j4 (c58j4f k rc))]) (tb := []) rfl rfl rfl (nil_all (by kernel_rfl)) (all_nth 6 (by kernel_rfl) ⟨join_case (by kernel_rfl) rfl (c58j18i5 k rc hrc), join_case (by kernel_rfl) rfl (c58j20i4 k rc hrc), join_case (by kernel_rfl) rfl (c58j8i3 k rc hrc), join_case (by kernel_rfl) rfl (c58j6i2 k rc hrc), join_case (by kernel_rfl) rfl (c58j16i1 k rc hrc), join_case (by kernel_rfl) rfl (c58j4i0 k rc hrc), trivial⟩) (fun p hp => by cases hp)
theorem c58_n0 (k : Nat) (rc : c54) (hrc : c54_ok rc) : ConD (X := UX) Try.prog 90 c58_a c58_b c58_d (fun a b => parse_reader_closest_p0_r k rc b.1) := conD xok tok Try.func90 (by kernel_rfl) (g := c58_G k rc hrc) (c := c58_c k rc) rfl (c58_k k rc hrc) (fun _ => by kernel_rfl) fun a b => by kernel_rfl

/-! (*cadastre/parse.reader).negative -/
noncomputable def c59_G (k : Nat) (rc : c54) (hrc : c54_ok rc) : GP UX Try.prog ρ := gC 13 (c33_A k) <| gC 89 (c59_A0 hrc) <| gC 81 (c49_A k) <| gC 90 (c58_A0 hrc) <| gN
noncomputable def c59_c (k : Nat) (rc : c54) : Cfg UX ρ := cfgOf UX ρ 13 [(0, [0]), (1, [0, 2]), (2, [0, 2]), (3, [0, 2])] [(1, [2]), (2, [2]), (3, [2])]
theorem c59_n0 (k : Nat) (rc : c54) (hrc : c54_ok rc) : ConD (X := UX) Try.prog 89 c59_a c59_b c59_d (fun a b => parse_reader_negative_p0_r k rc b.1) := conD xok tok Try.func89 (by kernel_rfl) (g := c59_G k rc hrc) (c := c59_c k rc) rfl (cok0 rfl rfl rfl) (fun _ => by kernel_rfl) fun a b => by kernel_rfl

/-! (*cadastre/parse.reader).left -/
noncomputable def c60_G (k : Nat) (rc : c54) (hrc : c54_ok rc) : GP UX Try.prog ρ := gC 89 (c59_A0 hrc) <| gC 13 (c33_A k) <| gC 81 (c49_A k) <| gN
noncomputable def c60l5 := Dc.st (Dc.at0 0 (Dc.p 1000 0) <| Dc.at_ 1 (Dc.fn 89 (Dc.cons0 (Dc.sp 1000 0) <| V0) (V0)) <| Dc.at_ 2 p_l109.pv <| Dc.at0 6 (Dc.p 6 0) <| Dc.at0 7 (Dc.p 7 0) <| Dc.at_ 17 p_l109.pv <| Dc.at_ 18 pi_i64.pv <| Dc.at_ 19 pi_i64.pv <| E0) (Dc.at_ 6 b69 <| Dc.at_ 7 b69 <| Dc.at_ 1000 b43 <| H0)
noncomputable def c60y0 (K : Ex → St UU → Option ρ) (l2 : List Soper) (t6 : SExpr) (e7 : SExpr) (t1000 : Sreader) : Option ρ := K (.goto 0) ⟨[(0, .ptr 1000 0), (1, .fn 89 [.ptr 1000 0] []), (2, .pv (.typ (.l109 l2))), (6, .ptr 6 0), (7, .ptr 7 0)], [(6, b69.enc t6), (7, b69.enc e7), (1000, b43.enc t1000)]⟩
noncomputable def c60y1 (K : Ex → St UU → Option ρ) (t6 : SExpr) (e7 : SExpr) (t1000 : Sreader) : Option ρ := K (.exit 0) ⟨[(6, .ptr 6 0), (7, .ptr 7 0)], [(6, b69.enc t6), (7, b69.enc e7), (1000, b43.enc t1000)]⟩
noncomputable def c60l5f (k : Nat) (rc : c54) (K : Ex → St UU → Option ρ) (n : Nat) (v : c60l5.T) : Option ρ := parse_reader_left_p0_fnegative_l5 k rc (c60y0 K) (c60y1 K) n v.1.2.1 v.1.2.2.1 v.1.2.2.2.1 v.1.2.2.2.2.1 v.2.1 v.2.2.1 v.2.2.2.1
noncomputable def c60j2 := Dc.st (Dc.at0 0 (Dc.p 1000 0) <| Dc.at_ 1 (Dc.fn 89 (Dc.cons0 (Dc.sp 1000 0) <| V0) (V0)) <| Dc.at_ 2 p_l109.pv <| Dc.at0 6 (Dc.p 6 0) <| Dc.at0 7 (Dc.p 7 0) <| E0) (Dc.at_ 6 b69 <| Dc.at_ 7 b69 <| Dc.at_ 1000 b43 <| H0)
noncomputable def c60y2 (K : Ex → St UU → Option ρ) (t6 : SExpr) (t1000 : Sreader) : Option ρ := K .ret ⟨[(6, .ptr 6 0)], [(6, b69.enc t6), (1000, b43.enc t1000)]⟩
noncomputable def c60j2f (k : Nat) (rc : c54) (K : Ex → St UU → Option ρ) (v : c60j2.T) : Option ρ := parse_reader_left_p0_fnegative_j2 k rc (c60y2 K) (c60y0 K) v.1.2.1 v.2.1 v.2.2.1 v.2.2.2.1
noncomputable def c60g2 := Dc.st (Dc.at0 0 (Dc.p 1000 0) <| Dc.at_ 1 (Dc.fn 89 (Dc.cons0 (Dc.sp 1000 0) <| V0) (V0)) <| Dc.at_ 2 p_l109.pv <| Dc.at0 6 (Dc.p 6 0) <| Dc.at0 7 (Dc.p 7 0) <| E0) (Dc.at_ 6 b69 <| Dc.at_ 7 b69 <| Dc.at_ 1000 b43 <| H0)
noncomputable def c60g2f (k : Nat) (rc : c54) (K : Ex → St UU → Option ρ) (n : Nat) (v : c60g2.T) : Option ρ := parse_reader_left_p0_fnegative_g0 k rc (c60y2 K) n v.1.2.1 v.2.1 v.2.2.1 v.2.2.2.1
noncomputable def c60_c (k : Nat) (rc : c54) : Cfg UX ρ := cfgOf UX ρ 38 [(0, [0, 1, 2]), (1, [0, 1, 2, 6]), (2, [0, 1, 2, 6, 7]), (3, [6, 7]), (4, [0, 1, 2, 6, 7]), (5, [0, 1, 2, 6, 7, 17, 18, 19]), (6, [0, 1, 2, 6, 7, 17, 18, 19]), (7, [0, 1, 2, 6, 7, 9, 17, 18, 19]), (8, [0, 1, 2, 6, 7, 9]), (9, [0, 1, 2, 6, 7, 17, 18, 19]), (10, [6, 7])] [(1, [6]), (2, [6, 7]), (3, [6, 7]), (4, [6, 7]), (5, [6, 7]), (6, [6, 7]), (7, [6, 7, 9]), (8, [6, 7, 9]), (9, [6, 7]), (10, [6, 7])] (tk := [(4000000, [33])]) (loops := [(5, runD_ ρ c60l5 fun K => c60l5f k rc K k)]) (joins := [(2, runD_ ρ c60j2 (c60j2f k rc))]) (labels := [(0, runD_ ρ c60g2 fun K => c60g2f k rc K k)]) (labelR := [(0, 2)]) (xr := [(2, [6], [6])]) (xe := [(5, [(0, [6, 7], [6, 7])])]) (xg := [(5, [(0, [0, 1, 2, 6, 7], [6, 7])]), (2, [(0, [0, 1, 2, 6, 7], [6, 7])])])
noncomputable def c60_L : List Code := selI [5] (loopsOf (bodyOf Try.f76))
noncomputable def c60_J : List Code := selI [2] (joinsOf (bodyOf Try.f76))
noncomputable def c60_S : List Code := scopesOf (bodyOf Try.f76)
theorem c60l5i0 (k : Nat) (rc : c54) (hrc : c54_ok rc) : IterOK UX (c60_c (ρ := ρ) k rc) (c60_G k rc hrc).1 (c60_L.getD 0 .skip) 5 (runD_ ρ c60l5 fun K => c60l5f k rc K k) := iterD (X := UX) (k := k) c60l5 (c60l5f k rc) (fun K rec v => parse_reader_left_p0_fnegative_l5_b k rc (c60y0 K) (c60y1 K) (fun l2 t17 t18 t19 t6 e7 t1000 => rec ((((), ()), l2, t17, t18, t19, ()), t6, e7, t1000, ())) v.1.2.1 v.1.2.2.1 v.1.2.2.2.1 v.1.2.2.2.2.1 v.2.1 v.2.2.1 v.2.2.2.1) (fun K n v => by kernel_rfl) (fun _ _ => rfl) fun _ _ _ => rfl
theorem c60j2i0 (k : Nat) (rc : c54) (hrc : c54_ok rc) : JoinOK UX (c60_c (ρ := ρ) k rc) (c60_G k rc hrc).1 (c60_J.getD 0 .skip) 2 (runD_ ρ c60j2 (c60j2f k rc)) := joinD (X := UX) c60j2 (c60j2f k rc) fun K v => by kernel_rfl
theorem c60g2i0 (k : Nat) (rc : c54) (hrc : c54_ok rc) : LabOK UX (c60_c (ρ := ρ) k rc) (c60_G k rc hrc).1 (c60_S.getD 0 .skip) 0 (runD_ ρ c60g2 fun K => c60g2f k rc K k) := labD (X := UX) (k := k) c60g2 (c60g2f k rc) (fun K rec v => parse_reader_left_p0_fnegative_g0_b k rc (c60y2 K) (fun l2 t6 e7 t1000 => rec ((((), ()), l2, ()), t6, e7, t1000, ())) v.1.2.1 v.2.1 v.2.2.1 v.2.2.2.1) (fun K n v => by kernel_rfl) (fun _ _ => rfl) fun _ _ _ => rfl
theorem c60_k (k : Nat) (rc : c54) (hrc : c54_ok rc) : COK (c60_c (ρ := ρ) k rc) (c60_G k rc hrc).1 (bodyOf Try.f76) :=
  cok_of (tl := [(5, runD_ ρ c60l5 fun K => c60l5f k rc K k)]) (tj := [(2, runD_ ρ c60j2 (c60j2f k rc))]) (tb := [(0, runD_ ρ c60g2 fun K => c60g2f k rc K k)]) rfl rfl rfl (all_nth 1 (by kernel_rfl) ⟨iter_case (by kernel_rfl) rfl (c60l5i0 k rc hrc), trivial⟩) (all_nth 1 (by kernel_rfl) ⟨join_case (by kernel_rfl) rfl (c60j2i0 k rc hrc), trivial⟩) (fun p hp => by
    simp only [List.mem_cons, List.not_mem_nil, or_false] at hp
    subst hp
    · exact all_nth 1 (by kernel_rfl) ⟨c60g2i0 k rc hrc, trivial⟩)
theorem c60_n0 (k : Nat) (rc : c54) (hrc : c54_ok rc) : ConD (X := UX) Try.prog 76 c60_a c60_b c60_d (fun a b => parse_reader_left_p0_fnegative_r k rc a.2.1 b.1) := conD xok tok Try.func76 (by kernel_rfl) (g := c60_G k rc hrc) (c := c60_c k rc) rfl (c60_k k rc hrc) (fun _ => by kernel_rfl) fun a b => by kernel_rfl

/-! (*cadastre/parse.reader).concat -/
noncomputable def c61_G (k : Nat) (rc : c54) (hrc : c54_ok rc) : GP UX Try.prog ρ := gC 76 (c60_A0 hrc) <| gN
noncomputable def c61_c (k : Nat) (rc : c54) : Cfg UX ρ := cfgOf UX ρ 9 [(0, [0]), (1, [0, 2])] [(1, [2])]
theorem c61_n0 (k : Nat) (rc : c54) (hrc : c54_ok rc) : ConD (X := UX) Try.prog 88 c61_a c61_b c61_d (fun a b => parse_reader_concat_p0_r k rc b.1) := conD xok tok Try.func88 (by kernel_rfl) (g := c61_G k rc hrc) (c := c61_c k rc) rfl (cok0 rfl rfl rfl) (fun _ => by kernel_rfl) fun a b => by kernel_rfl

/-! (*cadastre/parse.reader).left -/
noncomputable def c62_G (k : Nat) (rc : c54) (hrc : c54_ok rc) : GP UX Try.prog ρ := gC 88 (c61_A0 hrc) <| gC 13 (c33_A k) <| gC 81 (c49_A k) <| gN
noncomputable def c62l5 := Dc.st (Dc.at0 0 (Dc.p 1000 0) <| Dc.at_ 1 (Dc.fn 88 (Dc.cons0 (Dc.sp 1000 0) <| V0) (V0)) <| Dc.at_ 2 p_l109.pv <| Dc.at0 6 (Dc.p 6 0) <| Dc.at0 7 (Dc.p 7 0) <| Dc.at_ 17 p_l109.pv <| Dc.at_ 18 pi_i64.pv <| Dc.at_ 19 pi_i64.pv <| E0) (Dc.at_ 6 b69 <| Dc.at_ 7 b69 <| Dc.at_ 1000 b43 <| H0)
noncomputable def c62y0 (K : Ex → St UU → Option ρ) (l2 : List Soper) (t6 : SExpr) (e7 : SExpr) (t1000 : Sreader) : Option ρ := K (.goto 0) ⟨[(0, .ptr 1000 0), (1, .fn 88 [.ptr 1000 0] []), (2, .pv (.typ (.l109 l2))), (6, .ptr 6 0), (7, .ptr 7 0)], [(6, b69.enc t6), (7, b69.enc e7), (1000, b43.enc t1000)]⟩
noncomputable def c62y1 (K : Ex → St UU → Option ρ) (t6 : SExpr) (e7 : SExpr) (t1000 : Sreader) : Option ρ := K (.exit 0) ⟨[(6, .ptr 6 0), (7, .ptr 7 0)], [(6, b69.enc t6), (7, b69.enc e7), (1000, b43.enc t1000)]⟩
noncomputable def c62l5f (k : Nat) (rc : c54) (K : Ex → St UU → Option ρ) (n : Nat) (v : c62l5.T) : Option ρ := parse_reader_left_p0_fconcat_l5 k rc (c62y0 K) (c62y1 K) n v.1.2.1 v.1.2.2.1 v.1.2.2.2.1 v.1.2.2.2.2.1 v.2.1 v.2.2.1 v.2.2.2.1
noncomputable def c62j2 := Dc.st (Dc.at0 0 (Dc.p 1000 0) <| Dc.at_ 1 (Dc.fn 88 (Dc.cons0 (Dc.sp 1000 0) <| V0) (V0)) <| Dc.at_ 2 p_l109.pv <| Dc.at0 6 (Dc.p 6 0) <| Dc.at0 7 (Dc.p 7 0) <| E0) (Dc.at_ 6 b69 <| Dc.at_ 7 b69 <| Dc.at_ 1000 b43 <| H0)
noncomputable def c62y2 (K : Ex → St UU → Option ρ) (t6 : SExpr) (t1000 : Sreader) : Option ρ := K .ret ⟨[(6, .ptr 6 0)], [(6, b69.enc t6), (1000, b43.enc t1000)]⟩
noncomputable def c62j2f (k : Nat) (rc : c54) (K : Ex → St UU → Option ρ) (v : c62j2.T) : Option ρ := parse_reader_left_p0_fconcat_j2 k rc (c62y2 K) (c62y0 K) v.1.2.1 v.2.1 v.2.2.1 v.2.2.2.1
noncomputable def c62g2 := Dc.st (Dc.at0 0 (Dc.p 1000 0) <| Dc.at_ 1 (Dc.fn 88 (Dc.cons0 (Dc.sp 1000 0) <| V0) (V0)) <| Dc.at_ 2 p_l109.pv <| Dc.at0 6 (Dc.p 6 0) <| Dc.at0 7 (Dc.p 7 0) <| E0) (Dc.at_ 6 b69 <| Dc.at_ 7 b69 <| Dc.at_ 1000 b43 <| H0)
noncomputable def c62g2f (k : Nat) (rc : c54) (K : Ex → St UU → Option ρ) (n : Nat) (v : c62g2.T) : Option ρ := parse_reader_left_p0_fconcat_g0 k rc (c62y2 K) n v.1.2.1 v.2.1 v.2.2.1 v.2.2.2.1
noncomputable def c62_c (k : Nat) (rc : c54) : Cfg UX ρ := cfgOf UX ρ 38 [(0, [0, 1, 2]), (1, [0, 1, 2, 6]), (2, [0, 1, 2, 6, 7]), (3, [6, 7]), (4, [0, 1, 2, 6, 7]), (5, [0, 1, 2, 6, 7, 17, 18, 19]), (6, [0, 1, 2, 6, 7, 17, 18, 19]), (7, [0, 1, 2, 6, 7, 9, 17, 18, 19]), (8, [0, 1, 2, 6, 7, 9]), (9, [0, 1, 2, 6, 7, 17, 18, 19]), (10, [6, 7])] [(1, [6]), (2, [6, 7]), (3, [6, 7]), (4, [6, 7]), (5, [6, 7]), (6, [6, 7]), (7, [6, 7, 9]), (8, [6, 7, 9]), (9, [6, 7]), (10, [6, 7])] (tk := [(4000000, [33])]) (loops := [(5, runD_ ρ c62l5 fun K => c62l5f k rc K k)]) (joins := [(2, runD_ ρ c62j2 (c62j2f k rc))]) (labels := [(0, runD_ ρ c62g2 fun K => c62g2f k rc K k)]) (labelR := [(0, 2)]) (xr := [(2, [6], [6])]) (xe := [(5, [(0, [6, 7], [6, 7])])]) (xg := [(5, [(0, [0, 1, 2, 6, 7], [6, 7])]), (2, [(0, [0, 1, 2, 6, 7], [6, 7])])])
noncomputable def c62_L : List Code := selI [5] (loopsOf (bodyOf Try.f76))
noncomputable def c62_J : List Code := selI [2] (joinsOf (bodyOf Try.f76))
noncomputable def c62_S : List Code := scopesOf (bodyOf Try.f76)
theorem c62l5i0 (k : Nat) (rc : c54) (hrc : c54_ok rc) : IterOK UX (c62_c (ρ := ρ) k rc) (c62_G k rc hrc).1 (c62_L.getD 0 .skip) 5 (runD_ ρ c62l5 fun K => c62l5f k rc K k) := iterD (X := UX) (k := k) c62l5 (c62l5f k rc) (fun K rec v => parse_reader_left_p0_fconcat_l5_b k rc (c62y0 K) (c62y1 K) (fun l2 t17 t18 t19 t6 e7 t1000 => rec ((((), ()), l2, t17, t18, t19, ()), t6, e7, t1000, ())) v.1.2.1 v.1.2.2.1 v.1.2.2.2.1 v.1.2.2.2.2.1 v.2.1 v.2.2.1 v.2.2.2.1) (fun K n v => by kernel_rfl) (fun _ _ => rfl) fun _ _ _ => rfl
theorem c62j2i0 (k : Nat) (rc : c54) (hrc : c54_ok rc) : JoinOK UX (c62_c (ρ := ρ) k rc) (c62_G k rc hrc).1 (c62_J.getD 0 .skip) 2 (runD_ ρ c62j2 (c62j2f k rc)) := joinD (X := UX) c62j2 (c62j2f k rc) fun K v => by kernel_rfl
theorem c62g2i0 (k : Nat) (rc : c54) (hrc : c54_ok rc) : LabOK UX (c62_c (ρ := ρ) k rc) (c62_G k rc hrc).1 (c62_S.getD 0 .skip) 0 (runD_ ρ c62g2 fun K => c62g2f k rc K k) := labD (X := UX) (k := k) c62g2 (c62g2f k rc) (fun K rec v => parse_reader_left_p0_fconcat_g0_b k rc (c62y2 K) (fun l2 t6 e7 t1000 => rec ((((), ()), l2, ()), t6, e7, t1000, ())) v.1.2.1 v.2.1 v.2.2.1 v.2.2.2.1) (fun K n v => by kernel_rfl) (fun _ _ => rfl) fun _ _ _ => rfl
theorem c62_k (k : Nat) (rc : c54) (hrc : c54_ok rc) : COK (c62_c (ρ := ρ) k rc) (c62_G k rc hrc).1 (bodyOf Try.f76) :=
  cok_of (tl := [(5, runD_ ρ c62l5 fun K => c62l5f k rc K k)]) (tj := [(2, runD_ ρ c62j2 (c62j2f k rc))]) (tb := [(0, runD_ ρ c62g2 fun K => c62g2f k rc K k)]) rfl rfl rfl (all_nth 1 (by kernel_rfl) ⟨iter_case (by kernel_rfl) rfl (c62l5i0 k rc hrc), trivial⟩) (all_nth 1 (by kernel_rfl) ⟨join_case (by kernel_rfl) rfl (c62j2i0 k rc hrc), trivial⟩) (fun p hp => by
    simp only [List.mem_cons, List.not_mem_nil, or_false] at hp
    subst hp
    · exact all_nth 1 (by kernel_rfl) ⟨c62g2i0 k rc hrc, trivial⟩)
theorem c62_n0 (k : Nat) (rc : c54) (hrc : c54_ok rc) : ConD (X := UX) Try.prog 76 c62_a c62_b c62_d (fun a b => parse_reader_left_p0_fconcat_r k rc a.2.1 b.1) := conD xok tok Try.func76 (by kernel_rfl) (g := c62_G k rc hrc) (c := c62_c k rc) rfl (c62_k k rc hrc) (fun _ => by kernel_rfl) fun a b => by kernel_rfl

/-! (*cadastre/parse.reader).product -/
noncomputable def c63_G (k : Nat) (rc : c54) (hrc : c54_ok rc) : GP UX Try.prog ρ := gC 76 (c62_A0 hrc) <| gN
noncomputable def c63_c (k : Nat) (rc : c54) : Cfg UX ρ := cfgOf UX ρ 11 [(0, [0]), (1, [0, 2])] [(1, [2])]
theorem c63_n0 (k : Nat) (rc : c54) (hrc : c54_ok rc) : ConD (X := UX) Try.prog 87 c63_a c63_b c63_d (fun a b => parse_reader_product_p0_r k rc b.1) := conD xok tok Try.func87 (by kernel_rfl) (g := c63_G k rc hrc) (c := c63_c k rc) rfl (cok0 rfl rfl rfl) (fun _ => by kernel_rfl) fun a b => by kernel_rfl

/-! (*cadastre/parse.reader).left -/
noncomputable def c64_G (k : Nat) (rc : c54) (hrc : c54_ok rc) : GP UX Try.prog ρ := gC 87 (c63_A0 hrc) <| gC 13 (c33_A k) <| gC 81 (c49_A k) <| gN
noncomputable def c64l5 := Dc.st (Dc.at0 0 (Dc.p 1000 0) <| Dc.at_ 1 (Dc.fn 87 (Dc.cons0 (Dc.sp 1000 0) <| V0) (V0)) <| Dc.at_ 2 p_l109.pv <| Dc.at0 6 (Dc.p 6 0) <| Dc.at0 7 (Dc.p 7 0) <| Dc.at_ 17 p_l109.pv <| Dc.at_ 18 pi_i64.pv <| Dc.at_ 19 pi_i64.pv <| E0) (Dc.at_ 6 b69 <| Dc.at_ 7 b69 <| Dc.at_ 1000 b43 <| H0)
noncomputable def c64y0 (K : Ex → St UU → Option ρ) (l2 : List Soper) (t6 : SExpr) (e7 : SExpr) (t1000 : Sreader) : Option ρ := K (.goto 0) ⟨[(0, .ptr 1000 0), (1, .fn 87 [.ptr 1000 0] []), (2, .pv (.typ (.l109 l2))), (6, .ptr 6 0), (7, .ptr 7 0)], [(6, b69.enc t6), (7, b69.enc e7), (1000, b43.enc t1000)]⟩
noncomputable def c64y1 (K : Ex → St UU → Option ρ) (t6 : SExpr) (e7 : SExpr) (t1000 : Sreader) : Option ρ := K (.exit 0) ⟨[(6, .ptr 6 0), (7, .ptr 7 0)], [(6, b69.enc t6), (7, b69.enc e7), (1000, b43.enc t1000)]⟩
noncomputable def c64l5f (k : Nat) (rc : c54) (K : Ex → St UU → Option ρ) (n : Nat) (v : c64l5.T) : Option ρ := parse_reader_left_p0_fproduct_l5 k rc (c64y0 K) (c64y1 K) n v.1.2.1 v.1.2.2.1 v.1.2.2.2.1 v.1.2.2.2.2.1 v.2.1 v.2.2.1 v.2.2.2.1
noncomputable def c64j2 := Dc.st (Dc.at0 0 (Dc.p 1000 0) <| Dc.at_ 1 (Dc.fn 87 (Dc.cons0 (Dc.sp 1000 0) <| V0) (V0)) <| Dc.at_ 2 p_l109.pv <| Dc.at0 6 (Dc.p 6 0) <| Dc.at0 7 (Dc.p 7 0) <| E0) (Dc.at_ 6 b69 <| Dc.at_ 7 b69 <| Dc.at_ 1000 b43 <| H0)
noncomputable def c64y2 (K : Ex → St UU → Option ρ) (t6 : SExpr) (t1000 : Sreader) : Option ρ := K .ret ⟨[(6, .ptr 6 0)], [(6, b69.enc t6), (1000, b43.enc t1000)]⟩
noncomputable def c64j2f (k : Nat) (rc : c54) (K : Ex → St UU → Option ρ) (v : c64j2.T) : Option ρ := parse_reader_left_p0_fproduct_j2 k rc (c64y2 K) (c64y0 K) v.1.2.1 v.2.1 v.2.2.1 v.2.2.2.1
noncomputable def c64g2 := Dc.st (Dc.at0 0 (Dc.p 1000 0) <| Dc.at_ 1 (Dc.fn 87 (Dc.cons0 (Dc.sp 1000 0) <| V0) (V0)) <| Dc.at_ 2 p_l109.pv <| Dc.at0 6 (Dc.p 6 0) <| Dc.at0 7 (Dc.p 7 0) <| E0) (Dc.at_ 6 b69 <| Dc.at_ 7 b69 <| Dc.at_ 1000 b43 <| H0)
noncomputable def c64g2f (k : Nat) (rc : c54) (K : Ex → St UU → Option ρ) (n : Nat) (v : c64g2.T) : Option ρ := parse_reader_left_p0_fproduct_g0 k rc (c64y2 K) n v.1.2.1 v.2.1 v.2.2.1 v.2.2.2.1
noncomputable def c64_c (k : Nat) (rc : c54) : Cfg UX ρ := cfgOf UX ρ 38 [(0, [0, 1, 2]), (1, [0, 1, 2, 6]), (2, [0, 1, 2, 6, 7]), (3, [6, 7]), (4, [0, 1, 2, 6, 7]), (5, [0, 1, 2, 6, 7, 17, 18, 19]), (6, [0, 1, 2, 6, 7, 17, 18, 19]), (7, [0, 1, 2, 6, 7, 9, 17, 18, 19]), (8, [0, 1, 2, 6, 7, 9]), (9, [0, 1, 2, 6, 7, 17, 18, 19]), (10, [6, 7])] [(1, [6]), (2, [6, 7]), (3, [6, 7]), (4, [6, 7]), (5, [6, 7]), (6, [6, 7]), (7, [6, 7, 9]), (8, [6, 7, 9]), (9, [6, 7]), (10, [6, 7])] (tk := [(4000000, [33])]) (loops := [(5, runD_ ρ c64l5 fun K => c64l5f k rc K k)]) (joins := [(2, runD_ ρ c64j2 (c64j2f k rc))]) (labels := [(0, runD_ ρ c64g2 fun K => c64g2f k rc K k)]) (labelR := [(0, 2)]) (xr := [(2, [6], [6])]) (xe := [(5, [(0, [6, 7], [6, 7])])]) (xg := [(5, [(0, [0, 1, 2, 6, 7], [6, 7])]), (2, [(0, [0, 1, 2, 6, 7], [6, 7])])])
noncomputable def c64_L : List Code := selI [5] (loopsOf (bodyOf Try.f76))
noncomputable def c64_J : List Code := selI [2] (joinsOf (bodyOf Try.f76))
noncomputable def c64_S : List Code := scopesOf (bodyOf Try.f76)
theorem c64l5i0 (k : Nat) (rc : c54) (hrc : c54_ok rc) : IterOK UX (c64_c (ρ := ρ) k rc) (c64_G k rc hrc).1 (c64_L.getD 0 .skip) 5 (runD_ ρ c64l5 fun K => c64l5f k rc K k) := iterD (X := UX) (k := k) c64l5 (c64l5f k rc) (fun K rec v => parse_reader_left_p0_fproduct_l5_b k rc (c64y0 K) (c64y1 K) (fun l2 t17 t18 t19 t6 e7 t1000 => rec ((((), ()), l2, t17, t18, t19, ()), t6, e7, t1000, ())) v.1.2.1 v.1.2.2.1 v.1.2.2.2.1 v.1.2.2.2.2.1 v.2.1 v.2.2.1 v.2.2.2.1) (fun K n v => by kernel_rfl) (fun _ _ => rfl) fun _ _ _ => rfl
theorem c64j2i0 (k : Nat) (rc : c54) (hrc : c54_ok rc) : JoinOK UX (c64_c (ρ := ρ) k rc) (c64_G k rc hrc).1 (c64_J.getD 0 .skip) 2 (runD_ ρ c64j2 (c64j2f k rc)) := joinD (X := UX) c64j2 (c64j2f k rc) fun K v => by kernel_rfl
theorem c64g2i0 (k : Nat) (rc : c54) (hrc : c54_ok rc) : LabOK UX (c64_c (ρ := ρ) k rc) (c64_G k rc hrc).1 (c64_S.getD 0 .skip) 0 (runD_ ρ c64g2 fun K => c64g2f k rc K k) := labD (X := UX) (k := k) c64g2 (c64g2f k rc) (fun K rec v => parse_reader_left_p0_fproduct_g0_b k rc (c64y2 K) (fun l2 t6 e7 t1000 => rec ((((), ()), l2, ()), t6, e7, t1000, ())) v.1.2.1 v.2.1 v.2.2.1 v.2.2.2.1) (fun K n v => by kernel_rfl) (fun _ _ => rfl) fun _ _ _ => rfl
theorem c64_k (k : Nat) (rc : c54) (hrc : c54_ok rc) : COK (c64_c (ρ := ρ) k rc) (c64_G k rc hrc).1 (bodyOf Try.f76) :=
  cok_of (tl := [(5, runD_ ρ c64l5 fun K => c64l5f k rc K k)]) (tj := [(2, runD_ ρ c64j2 (c64j2f k rc))]) (tb := [(0, runD_ ρ c64g2 fun K => c64g2f k rc K k)]) rfl rfl rfl (all_nth 1 (by kernel_rfl) ⟨iter_case (by kernel_rfl) rfl (c64l5i0 k rc hrc), trivial⟩) (all_nth 1 (by kernel_rfl) ⟨join_case (by kernel_rfl) rfl (c64j2i0 k rc hrc), trivial⟩) (fun p hp => by
    simp only [List.mem_cons, List.not_mem_nil, or_false] at hp
    subst hp
    · exact all_nth 1 (by kernel_rfl) ⟨c64g2i0 k rc hrc, trivial⟩)
theorem c64_n0 (k : Nat) (rc : c54) (hrc : c54_ok rc) : ConD (X := UX) Try.prog 76 c64_a c64_b c64_d (fun a b => parse_reader_left_p0_fproduct_r k rc a.2.1 b.1) := conD xok tok Try.func76 (by kernel_rfl) (g := c64_G k rc hrc) (c := c64_c k rc) rfl (c64_k k rc hrc) (fun _ => by kernel_rfl) fun a b => by kernel_rfl

/-! (*cadastre/parse.reader).sum -/
noncomputable def c65_G (k : Nat) (rc : c54) (hrc : c54_ok rc) : GP UX Try.prog ρ := gC 76 (c64_A0 hrc) <| gN
noncomputable def c65_c (k : Nat) (rc : c54) : Cfg UX ρ := cfgOf UX ρ 10 [(0, [0]), (1, [0, 2])] [(1, [2])]
theorem c65_n0 (k : Nat) (rc : c54) (hrc : c54_ok rc) : ConD (X := UX) Try.prog 85 c65_a c65_b c65_d (fun a b => parse_reader_sum_p0_r k rc b.1) := conD xok tok Try.func85 (by kernel_rfl) (g := c65_G k rc hrc) (c := c65_c k rc) rfl (cok0 rfl rfl rfl) (fun _ => by kernel_rfl) fun a b => by kernel_rfl

/-! (*cadastre/parse.reader).test -/
noncomputable def c66_G (k : Nat) (rc : c54) (hrc : c54_ok rc) : GP UX Try.prog ρ := gC 85 (c65_A0 hrc) <| gC 13 (c33_A k) <| gC 27 (c36_A k) <| gC 81 (c49_A k) <| gC 86 (c48_A k) <| gN
noncomputable def c66j8 := Dc.st (Dc.at0 0 (Dc.p 1000 0) <| Dc.at0 2 (Dc.p 2 0) <| Dc.at0 3 (Dc.p 3 0) <| Dc.at_ 4 pi_i64.pv <| E0) (Dc.at_ 2 b69 <| Dc.at_ 3 b69 <| Dc.at_ 1000 b43 <| H0)
noncomputable def c66y0 (K : Ex → St UU → Option ρ) (t2 : SExpr) (e3 : SExpr) (t1000 : Sreader) : Option ρ := K (.goto 0) ⟨[(0, .ptr 1000 0), (2, .ptr 2 0), (3, .ptr 3 0)], [(2, b69.enc t2), (3, b69.enc e3), (1000, b43.enc t1000)]⟩
noncomputable def c66j8f (k : Nat) (rc : c54) (K : Ex → St UU → Option ρ) (v : c66j8.T) : Option ρ := parse_reader_test_p0_j8 k rc (c66y0 K) v.1.1 v.2.1 v.2.2.1 v.2.2.2.1
noncomputable def c66l11 := Dc.st (Dc.at0 0 (Dc.p 1000 0) <| Dc.at0 2 (Dc.p 2 0) <| Dc.at0 3 (Dc.p 3 0) <| Dc.at_ 27 o_l109 <| Dc.at_ 28 pi_i64.pv <| Dc.at_ 29 pi_i64.pv <| E0) (Dc.at_ 2 b69 <| Dc.at_ 3 b69 <| Dc.at_ 1000 b43 <| H0)
noncomputable def c66y1 (K : Ex → St UU → Option ρ) (t2 : SExpr) (e3 : SExpr) (t1000 : Sreader) : Option ρ := K (.exit 0) ⟨[(2, .ptr 2 0), (3, .ptr 3 0)], [(2, b69.enc t2), (3, b69.enc e3), (1000, b43.enc t1000)]⟩
noncomputable def c66l11f (k : Nat) (rc : c54) (K : Ex → St UU → Option ρ) (n : Nat) (v : c66l11.T) : Option ρ := parse_reader_test_p0_l11 k rc (c66y0 K) (c66y1 K) n v.1.1 v.1.2.1 v.1.2.2.1 v.2.1 v.2.2.1 v.2.2.2.1
noncomputable def c66j2 := Dc.st (Dc.at0 0 (Dc.p 1000 0) <| Dc.at0 2 (Dc.p 2 0) <| Dc.at0 3 (Dc.p 3 0) <| E0) (Dc.at_ 2 b69 <| Dc.at_ 3 b69 <| Dc.at_ 1000 b43 <| H0)
noncomputable def c66y2 (K : Ex → St UU → Option ρ) (t2 : SExpr) (t1000 : Sreader) : Option ρ := K .ret ⟨[(2, .ptr 2 0)], [(2, b69.enc t2), (1000, b43.enc t1000)]⟩
noncomputable def c66j2f (k : Nat) (rc : c54) (K : Ex → St UU → Option ρ) (v : c66j2.T) : Option ρ := parse_reader_test_p0_j2 k rc (c66y2 K) (c66y0 K) v.2.1 v.2.2.1 v.2.2.2.1
noncomputable def c66g2 := Dc.st (Dc.at0 0 (Dc.p 1000 0) <| Dc.at0 2 (Dc.p 2 0) <| Dc.at0 3 (Dc.p 3 0) <| E0) (Dc.at_ 2 b69 <| Dc.at_ 3 b69 <| Dc.at_ 1000 b43 <| H0)
noncomputable def c66g2f (k : Nat) (rc : c54) (K : Ex → St UU → Option ρ) (n : Nat) (v : c66g2.T) : Option ρ := parse_reader_test_p0_g0 k rc (c66y2 K) n v.2.1 v.2.2.1 v.2.2.2.1
noncomputable def c66_c (k : Nat) (rc : c54) : Cfg UX ρ := cfgOf UX ρ 48 [(0, [0]), (1, [0, 2]), (2, [0, 2, 3]), (3, [2, 3]), (4, [0, 2, 3]), (5, [0, 2, 3]), (6, [0, 2, 3, 4]), (7, [0, 2, 3]), (8, [0, 2, 3, 4]), (9, [0, 2, 3, 4]), (10, [0, 2, 3]), (11, [0, 2, 3, 27, 28, 29]), (12, [0, 2, 3, 27, 28, 29]), (13, [0, 2, 3, 6, 27, 28, 29]), (14, [0, 2, 3, 6]), (15, [0, 2, 3, 27, 28, 29]), (16, [2, 3])] [(1, [2]), (2, [2, 3]), (3, [2, 3]), (4, [2, 3]), (5, [2, 3]), (6, [2, 3]), (7, [2, 3]), (8, [2, 3]), (9, [2, 3]), (10, [2, 3]), (11, [2, 3]), (12, [2, 3]), (13, [2, 3, 6]), (14, [2, 3, 6]), (15, [2, 3]), (16, [2, 3])] (tk := [(4000000, [43])]) (loops := [(11, runD_ ρ c66l11 fun K => c66l11f k rc K k)]) (joins := [(8, runD_ ρ c66j8 (c66j8f k rc)), (2, runD_ ρ c66j2 (c66j2f k rc))]) (labels := [(0, runD_ ρ c66g2 fun K => c66g2f k rc K k)]) (labelR := [(0, 2)]) (xr := [(2, [2], [2])]) (xe := [(11, [(0, [2, 3], [2, 3])])]) (xg := [(8, [(0, [0, 2, 3], [2, 3])]), (11, [(0, [0, 2, 3], [2, 3])]), (2, [(0, [0, 2, 3], [2, 3])])])
noncomputable def c66_L : List Code := selI [11] (loopsOf (bodyOf Try.f84))
noncomputable def c66_J : List Code := selI [8, 2] (joinsOf (bodyOf Try.f84))
noncomputable def c66_S : List Code := scopesOf (bodyOf Try.f84)
theorem c66l11i0 (k : Nat) (rc : c54) (hrc : c54_ok rc) : IterOK UX (c66_c (ρ := ρ) k rc) (c66_G k rc hrc).1 (c66_L.getD 0 .skip) 11 (runD_ ρ c66l11 fun K => c66l11f k rc K k) := iterD (X := UX) (k := k) c66l11 (c66l11f k rc) (fun K rec v => parse_reader_test_p0_l11_b k rc (c66y0 K) (c66y1 K) (fun t27 t28 t29 t2 e3 t1000 => rec ((t27, t28, t29, ()), t2, e3, t1000, ())) v.1.1 v.1.2.1 v.1.2.2.1 v.2.1 v.2.2.1 v.2.2.2.1) (fun K n v => by kernel_rfl) (fun _ _ => rfl) fun _ _ _ => rfl
theorem c66j2i0 (k : Nat) (rc : c54) (hrc : c54_ok rc) : JoinOK UX (c66_c (ρ := ρ) k rc) (c66_G k rc hrc).1 (c66_J.getD 0 .skip) 2 (runD_ ρ c66j2 (c66j2f k rc)) := joinD (X := UX) c66j2 (c66j2f k rc) fun K v => by kernel_rfl
theorem c66j8i1 (k : Nat) (rc : c54) (hrc : c54_ok rc) : JoinOK UX (c66_c (ρ := ρ) k rc) (c66_G k rc hrc).1 (c66_J.getD 1 .skip) 8 (runD_ ρ c66j8 (c66j8f k rc)) := joinD (X := UX) c66j8 (c66j8f k rc) fun K v => by kernel_rfl
theorem c66g2i0 (k : Nat) (rc : c54) (hrc : c54_ok rc) : LabOK UX (c66_c (ρ := ρ) k rc) (c66_G k rc hrc).1 (c66_S.getD 0 .skip) 0 (runD_ ρ c66g2 fun K => c66g2f k rc K k) := labD (X := UX) (k := k) c66g2 (c66g2f k rc) (fun K rec v => parse_reader_test_p0_g0_b k rc (c66y2 K) (fun t2 e3 t1000 => rec ((), t2, e3, t1000, ())) v.2.1 v.2.2.1 v.2.2.2.1) (fun K n v => by kernel_rfl) (fun _ _ => rfl) fun _ _ _ => rfl
theorem c66_k (k : Nat) (rc : c54) (hrc : c54_ok rc) : COK (c66_c (ρ := ρ) k rc) (c66_G k rc hrc).1 (bodyOf Try.f84) :=
  cok_of (tl := [(11, runD_ ρ c66l11 fun K => c66l11f k rc K k)]) (tj := [(8, runD_ ρ c66j8 (c66j8f k rc)), (2, runD_ ρ c66j2 (c66j2f k rc))]) (tb := [(0, runD_ ρ c66g2 fun K => c66g2f k rc K k)]) rfl rfl rfl (all_nth 1 (by kernel_rfl) ⟨iter_case (by kernel_rfl) rfl (c66l11i0 k rc hrc), trivial⟩) (all_nth 2 (by kernel_rfl) ⟨join_case (by kernel_rfl) rfl (c66j8i1 k rc hrc), join_case (by kernel_rfl) rfl (c66j2i0 k rc hrc), trivial⟩) (fun p hp => by
    simp only [List.mem_cons, List.not_mem_nil, or_false] at hp
    subst hp
    · exact all_nth 1 (by kernel_rfl) ⟨c66g2i0 k rc hrc, trivial⟩)
theorem c66_n0 (k : Nat) (rc : c54) (hrc : c54_ok rc) : ConD (X := UX) Try.prog 84 c66_a c66_b c66_d (fun a b => parse_reader_test_p0_r k rc b.1) := conD xok tok Try.func84 (by kernel_rfl) (g := c66_G k rc hrc) (c := c66_c k rc) rfl (c66_k k rc hrc) (fun _ => by kernel_rfl) fun a b => by kernel_rfl

/-! (*cadastre/parse.reader).not -/
noncomputable def c67_G (k : Nat) (rc : c54) (hrc : c54_ok rc) : GP UX Try.prog ρ := gC 13 (c33_A k) <| gC 82 (c67_A0 hrc) <| gC 81 (c49_A k) <| gC 84 (c66_A0 hrc) <| gN
noncomputable def c67_c (k : Nat) (rc : c54) : Cfg UX ρ := cfgOf UX ρ 13 [(0, [0]), (1, [0, 2]), (2, [0, 2]), (3, [0, 2])] [(1, [2]), (2, [2]), (3, [2])]
theorem c67_n0 (k : Nat) (rc : c54) (hrc : c54_ok rc) : ConD (X := UX) Try.prog 82 c67_a c67_b c67_d (fun a b => parse_reader_not_p0_r k rc b.1) := conD xok tok Try.func82 (by kernel_rfl) (g := c67_G k rc hrc) (c := c67_c k rc) rfl (cok0 rfl rfl rfl) (fun _ => by kernel_rfl) fun a b => by kernel_rfl

/-! (*cadastre/parse.reader).left -/
noncomputable def c68_G (k : Nat) (rc : c54) (hrc : c54_ok rc) : GP UX Try.prog ρ := gC 82 (c67_A0 hrc) <| gC 13 (c33_A k) <| gC 81 (c49_A k) <| gN
noncomputable def c68l5 := Dc.st (Dc.at0 0 (Dc.p 1000 0) <| Dc.at_ 1 (Dc.fn 82 (Dc.cons0 (Dc.sp 1000 0) <| V0) (V0)) <| Dc.at_ 2 p_l109.pv <| Dc.at0 6 (Dc.p 6 0) <| Dc.at0 7 (Dc.p 7 0) <| Dc.at_ 17 p_l109.pv <| Dc.at_ 18 pi_i64.pv <| Dc.at_ 19 pi_i64.pv <| E0) (Dc.at_ 6 b69 <| Dc.at_ 7 b69 <| Dc.at_ 1000 b43 <| H0)
noncomputable def c68y0 (K : Ex → St UU → Option ρ) (l2 : List Soper) (t6 : SExpr) (e7 : SExpr) (t1000 : Sreader) : Option ρ := K (.goto 0) ⟨[(0, .ptr 1000 0), (1, .fn 82 [.ptr 1000 0] []), (2, .pv (.typ (.l109 l2))), (6, .ptr 6 0), (7, .ptr 7 0)], [(6, b69.enc t6), (7, b69.enc e7), (1000, b43.enc t1000)]⟩
noncomputable def c68y1 (K : Ex → St UU → Option ρ) (t6 : SExpr) (e7 : SExpr) (t1000 : Sreader) : Option ρ := K (.exit 0) ⟨[(6, .ptr 6 0), (7, .ptr 7 0)], [(6, b69.enc t6), (7, b69.enc e7), (1000, b43.enc t1000)]⟩
noncomputable def c68l5f (k : Nat) (rc : c54) (K : Ex → St UU → Option ρ) (n : Nat) (v : c68l5.T) : Option ρ := parse_reader_left_p0_fnot_l5 k rc (c68y0 K) (c68y1 K) n v.1.2.1 v.1.2.2.1 v.1.2.2.2.1 v.1.2.2.2.2.1 v.2.1 v.2.2.1 v.2.2.2.1
noncomputable def c68j2 := Dc.st (Dc.at0 0 (Dc.p 1000 0) <| Dc.at_ 1 (Dc.fn 82 (Dc.cons0 (Dc.sp 1000 0) <| V0) (V0)) <| Dc.at_ 2 p_l109.pv <| Dc.at0 6 (Dc.p 6 0) <| Dc.at0 7 (Dc.p 7 0) <| E0) (Dc.at_ 6 b69 <| Dc.at_ 7 b69 <| Dc.at_ 1000 b43 <| H0)
noncomputable def c68y2 (K : Ex → St UU → Option ρ) (t6 : SExpr) (t1000 : Sreader) : Option ρ := K .ret ⟨[(6, .ptr 6 0)], [(6, b69.enc t6), (1000, b43.enc t1000)]⟩
noncomputable def c68j2f (k : Nat) (rc : c54) (K : Ex → St UU → Option ρ) (v : c68j2.T) : Option ρ := parse_reader_left_p0_fnot_j2 k rc (c68y2 K) (c68y0 K) v.1.2.1 v.2.1 v.2.2.1 v.2.2.2.1
noncomputable def c68g2 := Dc.st (Dc.at0 0 (Dc.p 1000 0) <| Dc.at_ 1 (Dc.fn 82 (Dc.cons0 (Dc.sp 1000 0) <| V0) (V0)) <| Dc.at_ 2 p_l109.pv <| Dc.at0 6 (Dc.p 6 0) <| Dc.at0 7 (Dc.p 7 0) <| E0) (Dc.at_ 6 b69 <| Dc.at_ 7 b69 <| Dc.at_ 1000 b43 <| H0)
noncomputable def c68g2f (k : Nat) (rc : c54) (K : Ex → St UU → Option ρ) (n : Nat) (v : c68g2.T) : Option ρ := parse_reader_left_p0_fnot_g0 k rc (c68y2 K) n v.1.2.1 v.2.1 v.2.2.1 v.2.2.2.1
noncomputable def c68_c (k : Nat) (rc : c54) : Cfg UX ρ := cfgOf UX ρ 38 [(0, [0, 1, 2]), (1, [0, 1, 2, 6]), (2, [0, 1, 2, 6, 7]), (3, [6, 7]), (4, [0, 1, 2, 6, 7]), (5, [0, 1, 2, 6, 7, 17, 18, 19]), (6, [0, 1, 2, 6, 7, 17, 18, 19]), (7, [0, 1, 2, 6, 7, 9, 17, 18, 19]), (8, [0, 1, 2, 6, 7, 9]), (9, [0, 1, 2, 6, 7, 17, 18, 19]), (10, [6, 7])] [(1, [6]), (2, [6, 7]), (3, [6, 7]), (4, [6, 7]), (5, [6, 7]), (6, [6, 7]), (7, [6, 7, 9]), (8, [6, 7, 9]), (9, [6, 7]), (10, [6, 7])] (tk := [(4000000, [33])]) (loops := [(5, runD_ ρ c68l5 fun K => c68l5f k rc K k)]) (joins := [(2, runD_ ρ c68j2 (c68j2f k rc))]) (labels := [(0, runD_ ρ c68g2 fun K => c68g2f k rc K k)]) (labelR := [(0, 2)]) (xr := [(2, [6], [6])]) (xe := [(5, [(0, [6, 7], [6, 7])])]) (xg := [(5, [(0, [0, 1, 2, 6, 7], [6, 7])]), (2, [(0, [0, 1, 2, 6, 7], [6, 7])])])
noncomputable def c68_L : List Code := selI [5] (loopsOf (bodyOf Try.f76))
noncomputable def c68_J : List Code := selI [2] (joinsOf (bodyOf Try.f76))
noncomputable def c68_S : List Code := scopesOf (bodyOf Try.f76)
theorem c68l5i0 (k : Nat) (rc : c54) (hrc : c54_ok rc) : IterOK UX (c68_c (ρ := ρ) k rc) (c68_G k rc hrc).1 (c68_L.getD 0 .skip) 5 (runD_ ρ c68l5 fun K => c68l5f k rc K k) := iterD (X := UX) (k := k) c68l5 (c68l5f k rc) (fun K rec v => parse_reader_left_p0_fnot_l5_b k rc (c68y0 K) (c68y1 K) (fun l2 t17 t18 t19 t6 e7 t1000 => rec ((((), ()), l2, t17, t18, t19, ()), t6, e7, t1000, ())) v.1.2.1 v.1.2.2.1 v.1.2.2.2.1 v.1.2.2.2.2.1 v.2.1 v.2.2.1 v.2.2.2.1) (fun K n v => by kernel_rfl) (fun _ _ => rfl) fun _ _ _ => rfl
theorem c68j2i0 (k : Nat) (rc : c54) (hrc : c54_ok rc) : JoinOK UX (c68_c (ρ := ρ) k rc) (c68_G k rc hrc).1 (c68_J.getD 0 .skip) 2 (runD_ ρ c68j2 (c68j2f k rc)) := joinD (X := UX) c68j2 (c68j2f k rc) fun K v => by kernel_rfl
theorem c68g2i0 (k : Nat) (rc : c54) (hrc : c54_ok rc) : LabOK UX (c68_c (ρ := ρ) k rc) (c68_G k rc hrc).1 (c68_S.getD 0 .skip) 0 (runD_ ρ c68g2 fun K => c68g2f k rc K k) := labD (X := UX) (k := k) c68g2 (c68g2f k rc) (fun K rec v => parse_reader_left_p0_fnot_g0_b k rc (c68y2 K) (fun l2 t6 e7 t1000 => rec ((((), ()), l2, ()), t6, e7, t1000, ())) v.1.2.1 v.2.1 v.2.2.1 v.2.2.2.1) (fun K n v => by kernel_rfl) (fun _ _ => rfl) fun _ _ _ => rfl
theorem c68_k (k : Nat) (rc : c54) (hrc : c54_ok rc) : COK (c68_c (ρ := ρ) k rc) (c68_G k rc hrc).1 (bodyOf Try.f76) :=
  cok_of (tl := [(5, runD_ ρ c68l5 fun K => c68l5f k rc K k)]) (tj := [(2, runD_ ρ c68j2 (c68j2f k rc))]) (tb := [(0, runD_ ρ c68g2 fun K => c68g2f k rc K k)]) rfl rfl rfl (all_nth 1 (by kernel_rfl) ⟨iter_case (by kernel_rfl) rfl (c68l5i0 k rc hrc), trivial⟩) (all_nth 1 (by kernel_rfl) ⟨join_case (by kernel_rfl) rfl (c68j2i0 k rc hrc), trivial⟩) (fun p hp => by
    simp only [List.mem_cons, List.not_mem_nil, or_false] at hp
    subst hp
    · exact all_nth 1 (by kernel_rfl) ⟨c68g2i0 k rc hrc, trivial⟩)
theorem c68_n0 (k : Nat) (rc : c54) (hrc : c54_ok rc) : ConD (X := UX) Try.prog 76 c68_a c68_b c68_d (fun a b => parse_reader_left_p0_fnot_r k rc a.2.1 b.1) := conD xok tok Try.func76 (by kernel_rfl) (g := c68_G k rc hrc) (c := c68_c k rc) rfl (c68_k k rc hrc) (fun _ => by kernel_rfl) fun a b => by kernel_rfl

/-! (*cadastre/parse.reader).and -/
noncomputable def c69_G (k : Nat) (rc : c54) (hrc : c54_ok rc) : GP UX Try.prog ρ := gC 76 (c68_A0 hrc) <| gN
noncomputable def c69_c (k : Nat) (rc : c54) : Cfg UX ρ := cfgOf UX ρ 9 [(0, [0]), (1, [0, 2])] [(1, [2])]
theorem c69_n0 (k : Nat) (rc : c54) (hrc : c54_ok rc) : ConD (X := UX) Try.prog 77 c69_a c69_b c69_d (fun a b => parse_reader_and_p0_r k rc b.1) := conD xok tok Try.func77 (by kernel_rfl) (g := c69_G k rc hrc) (c := c69_c k rc) rfl (cok0 rfl rfl rfl) (fun _ => by kernel_rfl) fun a b => by kernel_rfl
end
end Go.Proofs.Ytepekanlplbciaa.Q
