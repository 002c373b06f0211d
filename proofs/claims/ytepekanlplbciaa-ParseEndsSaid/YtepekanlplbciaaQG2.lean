/-
  What the program's functions answer: the printed functions' answers.
-/
import Derived.Test.YtepekanlplbciaaQG1
namespace Go.Proofs.Ytepekanlplbciaa.Q
open Go Go.AX
section
variable {ρ : Type}
/-! (*cadastre/parse.reader).left -/
noncomputable def c70_G (k : Nat) (rc : c54) (hrc : c54_ok rc) : GP UX Try.prog ρ := gC 77 (c69_A0 hrc) <| gC 13 (c33_A k) <| gC 81 (c49_A k) <| gN
noncomputable def c70l5 := Dc.st (Dc.at0 0 (Dc.p 1000 0) <| Dc.at_ 1 (Dc.fn 77 (Dc.cons0 (Dc.sp 1000 0) <| V0) (V0)) <| Dc.at_ 2 p_l109.pv <| Dc.at0 6 (Dc.p 6 0) <| Dc.at0 7 (Dc.p 7 0) <| Dc.at_ 17 p_l109.pv <| Dc.at_ 18 pi_i64.pv <| Dc.at_ 19 pi_i64.pv <| E0) (Dc.at_ 6 b69 <| Dc.at_ 7 b69 <| Dc.at_ 1000 b43 <| H0)
noncomputable def c70y0 (K : Ex → St UU → Option ρ) (l2 : List Soper) (t6 : SExpr) (e7 : SExpr) (t1000 : Sreader) : Option ρ := K (.goto 0) ⟨[(0, .ptr 1000 0), (1, .fn 77 [.ptr 1000 0] []), (2, .pv (.typ (.l109 l2))), (6, .ptr 6 0), (7, .ptr 7 0)], [(6, b69.enc t6), (7, b69.enc e7), (1000, b43.enc t1000)]⟩
noncomputable def c70y1 (K : Ex → St UU → Option ρ) (t6 : SExpr) (e7 : SExpr) (t1000 : Sreader) : Option ρ := K (.exit 0) ⟨[(6, .ptr 6 0), (7, .ptr 7 0)], [(6, b69.enc t6), (7, b69.enc e7), (1000, b43.enc t1000)]⟩
noncomputable def c70l5f (k : Nat) (rc : c54) (K : Ex → St UU → Option ρ) (n : Nat) (v : c70l5.T) : Option ρ := parse_reader_left_p0_fand_l5 k rc (c70y0 K) (c70y1 K) n v.1.2.1 v.1.2.2.1 v.1.2.2.2.1 v.1.2.2.2.2.1 v.2.1 v.2.2.1 v.2.2.2.1
noncomputable def c70j2 := Dc.st (Dc.at0 0 (Dc.p 1000 0) <| Dc.at_ 1 (Dc.fn 77 (Dc.cons0 (Dc.sp 1000 0) <| V0) (V0)) <| Dc.at_ 2 p_l109.pv <| Dc.at0 6 (Dc.p 6 0) <| Dc.at0 7 (Dc.p 7 0) <| E0) (Dc.at_ 6 b69 <| Dc.at_ 7 b69 <| Dc.at_ 1000 b43 <| H0)
noncomputable def c70y2 (K : Ex → St UU → Option ρ) (t6 : SExpr) (t1000 : Sreader) : Option ρ := K .ret ⟨[(6, .ptr 6 0)], [(6, b69.enc t6), (1000, b43.enc t1000)]⟩
noncomputable def c70j2f (k : Nat) (rc : c54) (K : Ex → St UU → Option ρ) (v : c70j2.T) : Option ρ := parse_reader_left_p0_fand_j2 k rc (c70y2 K) (c70y0 K) v.1.2.1 v.2.1 v.2.2.1 v.2.2.2.1
noncomputable def c70g2 := Dc.st (Dc.at0 0 (Dc.p 1000 0) <| Dc.at_ 1 (Dc.fn 77 (Dc.cons0 (Dc.sp 1000 0) <| V0) (V0)) <| Dc.at_ 2 p_l109.pv <| Dc.at0 6 (Dc.p 6 0) <| Dc.at0 7 (Dc.p 7 0) <| E0) (Dc.at_ 6 b69 <| Dc.at_ 7 b69 <| Dc.at_ 1000 b43 <| H0)
noncomputable def c70g2f (k : Nat) (rc : c54) (K : Ex → St UU → Option ρ) (n : Nat) (v : c70g2.T) : Option ρ := parse_reader_left_p0_fand_g0 k rc (c70y2 K) n v.1.2.1 v.2.1 v.2.2.1 v.2.2.2.1
noncomputable def c70_c (k : Nat) (rc : c54) : Cfg UX ρ := cfgOf UX ρ 38 [(0, [0, 1, 2]), (1, [0, 1, 2, 6]), (2, [0, 1, 2, 6, 7]), (3, [6, 7]), (4, [0, 1, 2, 6, 7]), (5, [0, 1, 2, 6, 7, 17, 18, 19]), (6, [0, 1, 2, 6, 7, 17, 18, 19]), (7, [0, 1, 2, 6, 7, 9, 17, 18, 19]), (8, [0, 1, 2, 6, 7, 9]), (9, [0, 1, 2, 6, 7, 17, 18, 19]), (10, [6, 7])] [(1, [6]), (2, [6, 7]), (3, [6, 7]), (4, [6, 7]), (5, [6, 7]), (6, [6, 7]), (7, [6, 7, 9]), (8, [6, 7, 9]), (9, [6, 7]), (10, [6, 7])] (tk := [(4000000, [33])]) (loops := [(5, runD_ ρ c70l5 fun K => c70l5f k rc K k)]) (joins := [(2, runD_ ρ c70j2 (c70j2f k rc))]) (labels := [(0, runD_ ρ c70g2 fun K => c70g2f k rc K k)]) (labelR := [(0, 2)]) (xr := [(2, [6], [6])]) (xe := [(5, [(0, [6, 7], [6, 7])])]) (xg := [(5, [(0, [0, 1, 2, 6, 7], [6, 7])]), (2, [(0, [0, 1, 2, 6, 7], [6, 7])])])
noncomputable def c70_L : List Code := selI [5] (loopsOf (bodyOf Try.f76))
noncomputable def c70_J : List Code := selI [2] (joinsOf (bodyOf Try.f76))
noncomputable def c70_S : List Code := scopesOf (bodyOf Try.f76)
theorem c70l5i0 (k : Nat) (rc : c54) (hrc : c54_ok rc) : IterOK UX (c70_c (ρ := ρ) k rc) (c70_G k rc hrc).1 (c70_L.getD 0 .skip) 5 (runD_ ρ c70l5 fun K => c70l5f k rc K k) := iterD (X := UX) (k := k) c70l5 (c70l5f k rc) (fun K rec v => parse_reader_left_p0_fand_l5_b k rc (c70y0 K) (c70y1 K) (fun l2 t17 t18 t19 t6 e7 t1000 => rec ((((), ()), l2, t17, t18, t19, ()), t6, e7, t1000, ())) v.1.2.1 v.1.2.2.1 v.1.2.2.2.1 v.1.2.2.2.2.1 v.2.1 v.2.2.1 v.2.2.2.1) (fun K n v => by kernel_rfl) (fun _ _ => rfl) fun _ _ _ => rfl
theorem c70j2i0 (k : Nat) (rc : c54) (hrc : c54_ok rc) : JoinOK UX (c70_c (ρ := ρ) k rc) (c70_G k rc hrc).1 (c70_J.getD 0 .skip) 2 (runD_ ρ c70j2 (c70j2f k rc)) := joinD (X := UX) c70j2 (c70j2f k rc) fun K v => by kernel_rfl
theorem c70g2i0 (k : Nat) (rc : c54) (hrc : c54_ok rc) : LabOK UX (c70_c (ρ := ρ) k rc) (c70_G k rc hrc).1 (c70_S.getD 0 .skip) 0 (runD_ ρ c70g2 fun K => c70g2f k rc K k) := labD (X := UX) (k := k) c70g2 (c70g2f k rc) (fun K rec v => parse_reader_left_p0_fand_g0_b k rc (c70y2 K) (fun l2 t6 e7 t1000 => rec ((((), ()), l2, ()), t6, e7, t1000, ())) v.1.2.1 v.2.1 v.2.2.1 v.2.2.2.1) (fun K n v => by kernel_rfl) (fun _ _ => rfl) fun _ _ _ => rfl
theorem c70_k (k : Nat) (rc : c54) (hrc : c54_ok rc) : COK (c70_c (ρ := ρ) k rc) (c70_G k rc hrc).1 (bodyOf Try.f76) :=
  cok_of (tl := [(5, runD_ ρ c70l5 fun K => c70l5f k rc K k)]) (tj := [(2, runD_ ρ c70j2 (c70j2f k rc))]) (tb := [(0, runD_ ρ c70g2 fun K => c70g2f k rc K k)]) rfl rfl rfl (all_nth 1 (by kernel_rfl) ⟨iter_case (by kernel_rfl) rfl (c70l5i0 k rc hrc), trivial⟩) (all_nth 1 (by kernel_rfl) ⟨join_case (by kernel_rfl) rfl (c70j2i0 k rc hrc), trivial⟩) (fun p hp => by
    simp only [List.mem_cons, List.not_mem_nil, or_false] at hp
    subst hp
    · exact all_nth 1 (by kernel_rfl) ⟨c70g2i0 k rc hrc, trivial⟩)
theorem c70_n0 (k : Nat) (rc : c54) (hrc : c54_ok rc) : ConD (X := UX) Try.prog 76 c70_a c70_b c70_d (fun a b => parse_reader_left_p0_fand_r k rc a.2.1 b.1) := conD xok tok Try.func76 (by kernel_rfl) (g := c70_G k rc hrc) (c := c70_c k rc) rfl (c70_k k rc hrc) (fun _ => by kernel_rfl) fun a b => by kernel_rfl
theorem c54_it (k : Nat) : ∀ d, c54_ok (parse_reader_expr_p0_R_it k d)
  | 0 => ⟨ConD.zero, ConD.zero, ConD.zero, ConD.zero, ConD.zero, ConD.zero, ConD.zero, ConD.zero, ConD.zero, ConD.zero, ConD.zero, ConD.zero, ConD.zero, ConD.zero, ConD.zero, ConD.zero⟩
  | d + 1 => ⟨c55_n0 k _ (c54_it k d), c56_n0 k _ (c54_it k d), c57_n0 k _ (c54_it k d), c58_n0 k _ (c54_it k d), c59_n0 k _ (c54_it k d), c60_n0 k _ (c54_it k d), c61_n0 k _ (c54_it k d), c62_n0 k _ (c54_it k d), c63_n0 k _ (c54_it k d), c64_n0 k _ (c54_it k d), c65_n0 k _ (c54_it k d), c66_n0 k _ (c54_it k d), c67_n0 k _ (c54_it k d), c68_n0 k _ (c54_it k d), c69_n0 k _ (c54_it k d), c70_n0 k _ (c54_it k d)⟩
theorem c55_n (k : Nat) : ConD (X := UX) Try.prog 71 c55_a c55_b c55_d (fun a b => parse_reader_expr_p0 k b.1) := (c54_it k k).c55
noncomputable def c55_A (k : Nat) : AP UX Try.prog ρ 71 := apD Try.func71 (by kernel_rfl) c55_a c55_b c55_d _ (c55_n k)
theorem c56_n (k : Nat) : ConD (X := UX) Try.prog 96 c56_a c56_b c56_d (fun a b => parse_in_api_Expr__p0_fexpr k b.1) := (c54_it k k).c56
noncomputable def c56_A (k : Nat) : AP UX Try.prog ρ 96 := apD Try.func96 (by kernel_rfl) c56_a c56_b c56_d _ (c56_n k)
theorem c57_n (k : Nat) : ConD (X := UX) Try.prog 92 c57_a c57_b c57_d (fun a b => parse_reader_inside_p0 k b.1) := (c54_it k k).c57
noncomputable def c57_A (k : Nat) : AP UX Try.prog ρ 92 := apD Try.func92 (by kernel_rfl) c57_a c57_b c57_d _ (c57_n k)
theorem c58_n (k : Nat) : ConD (X := UX) Try.prog 90 c58_a c58_b c58_d (fun a b => parse_reader_closest_p0 k b.1) := (c54_it k k).c58
noncomputable def c58_A (k : Nat) : AP UX Try.prog ρ 90 := apD Try.func90 (by kernel_rfl) c58_a c58_b c58_d _ (c58_n k)
theorem c59_n (k : Nat) : ConD (X := UX) Try.prog 89 c59_a c59_b c59_d (fun a b => parse_reader_negative_p0 k b.1) := (c54_it k k).c59
noncomputable def c59_A (k : Nat) : AP UX Try.prog ρ 89 := apD Try.func89 (by kernel_rfl) c59_a c59_b c59_d _ (c59_n k)
theorem c60_n (k : Nat) : ConD (X := UX) Try.prog 76 c60_a c60_b c60_d (fun a b => parse_reader_left_p0_fnegative k a.2.1 b.1) := (c54_it k k).c60
noncomputable def c60_A (k : Nat) : AP UX Try.prog ρ 76 := apD Try.func76 (by kernel_rfl) c60_a c60_b c60_d _ (c60_n k)
theorem c61_n (k : Nat) : ConD (X := UX) Try.prog 88 c61_a c61_b c61_d (fun a b => parse_reader_concat_p0 k b.1) := (c54_it k k).c61
noncomputable def c61_A (k : Nat) : AP UX Try.prog ρ 88 := apD Try.func88 (by kernel_rfl) c61_a c61_b c61_d _ (c61_n k)
theorem c62_n (k : Nat) : ConD (X := UX) Try.prog 76 c62_a c62_b c62_d (fun a b => parse_reader_left_p0_fconcat k a.2.1 b.1) := (c54_it k k).c62
noncomputable def c62_A (k : Nat) : AP UX Try.prog ρ 76 := apD Try.func76 (by kernel_rfl) c62_a c62_b c62_d _ (c62_n k)
theorem c63_n (k : Nat) : ConD (X := UX) Try.prog 87 c63_a c63_b c63_d (fun a b => parse_reader_product_p0 k b.1) := (c54_it k k).c63
noncomputable def c63_A (k : Nat) : AP UX Try.prog ρ 87 := apD Try.func87 (by kernel_rfl) c63_a c63_b c63_d _ (c63_n k)
theorem c64_n (k : Nat) : ConD (X := UX) Try.prog 76 c64_a c64_b c64_d (fun a b => parse_reader_left_p0_fproduct k a.2.1 b.1) := (c54_it k k).c64
noncomputable def c64_A (k : Nat) : AP UX Try.prog ρ 76 := apD Try.func76 (by kernel_rfl) c64_a c64_b c64_d _ (c64_n k)
theorem c65_n (k : Nat) : ConD (X := UX) Try.prog 85 c65_a c65_b c65_d (fun a b => parse_reader_sum_p0 k b.1) := (c54_it k k).c65
noncomputable def c65_A (k : Nat) : AP UX Try.prog ρ 85 := apD Try.func85 (by kernel_rfl) c65_a c65_b c65_d _ (c65_n k)
theorem c66_n (k : Nat) : ConD (X := UX) Try.prog 84 c66_a c66_b c66_d (fun a b => parse_reader_test_p0 k b.1) := (c54_it k k).c66
noncomputable def c66_A (k : Nat) : AP UX Try.prog ρ 84 := apD Try.func84 (by kernel_rfl) c66_a c66_b c66_d _ (c66_n k)
theorem c67_n (k : Nat) : ConD (X := UX) Try.prog 82 c67_a c67_b c67_d (fun a b => parse_reader_not_p0 k b.1) := (c54_it k k).c67
noncomputable def c67_A (k : Nat) : AP UX Try.prog ρ 82 := apD Try.func82 (by kernel_rfl) c67_a c67_b c67_d _ (c67_n k)
theorem c68_n (k : Nat) : ConD (X := UX) Try.prog 76 c68_a c68_b c68_d (fun a b => parse_reader_left_p0_fnot k a.2.1 b.1) := (c54_it k k).c68
noncomputable def c68_A (k : Nat) : AP UX Try.prog ρ 76 := apD Try.func76 (by kernel_rfl) c68_a c68_b c68_d _ (c68_n k)
theorem c69_n (k : Nat) : ConD (X := UX) Try.prog 77 c69_a c69_b c69_d (fun a b => parse_reader_and_p0 k b.1) := (c54_it k k).c69
noncomputable def c69_A (k : Nat) : AP UX Try.prog ρ 77 := apD Try.func77 (by kernel_rfl) c69_a c69_b c69_d _ (c69_n k)
theorem c70_n (k : Nat) : ConD (X := UX) Try.prog 76 c70_a c70_b c70_d (fun a b => parse_reader_left_p0_fand k a.2.1 b.1) := (c54_it k k).c70
noncomputable def c70_A (k : Nat) : AP UX Try.prog ρ 76 := apD Try.func76 (by kernel_rfl) c70_a c70_b c70_d _ (c70_n k)


/-! (*cadastre/parse.reader).whole -/
noncomputable def c71_a := Dc.cons0 (Dc.p 1000 0) <| A0
noncomputable def c71_b := Dc.cons b43 <| B0
noncomputable def c71_d := Dc.two p_s69.pv (Dc.last b43)
noncomputable def c71_G (k : Nat) : GP UX Try.prog ρ := gC 71 (c55_A k) <| gC 72 (c31_A k) <| gC 14 (c41_A k) <| gN
noncomputable def c71_c (k : Nat) : Cfg UX ρ := cfgOf UX ρ 11 [(0, [0]), (1, [0, 2]), (2, [0, 2, 3]), (3, [2, 3])] [(1, [2]), (2, [2, 3]), (3, [2, 3])]
theorem c71_n (k : Nat) : ConD (X := UX) Try.prog 59 c71_a c71_b c71_d (fun a b => parse_reader_whole_p0 k b.1) := conD xok tok Try.func59 (by kernel_rfl) (g := c71_G k) (c := c71_c k) rfl (cok0 rfl rfl rfl) (fun _ => by kernel_rfl) fun a b => by kernel_rfl
noncomputable def c71_A (k : Nat) : AP UX Try.prog ρ 59 := apD Try.func59 (by kernel_rfl) c71_a c71_b c71_d _ (c71_n k)


/-! cadastre/parse.list[cadastre/api.Expr] -/
noncomputable def c72_a := Dc.cons0 (Dc.p 1000 0) <| Dc.cons (Dc.fn 59 (Dc.cons0 (Dc.sp 1000 0) <| V0) (V0)) <| A0
noncomputable def c72_b := Dc.cons b43 <| B0
noncomputable def c72_d := Dc.two o_l69 (Dc.last b43)
noncomputable def c72_G (k : Nat) : GP UX Try.prog ρ := gC 59 (c71_A k) <| gC 13 (c33_A k) <| gN
noncomputable def c72l1 := Dc.st (Dc.at0 0 (Dc.p 1000 0) <| Dc.at_ 1 (Dc.fn 59 (Dc.cons0 (Dc.sp 1000 0) <| V0) (V0)) <| Dc.at_ 4 o_l69 <| E0) (Dc.at_ 1000 b43 <| H0)
noncomputable def c72y0 (K : Ex → St UU → Option ρ) (l4 : List TExpr) (t1000 : Sreader) : Option ρ := K (.exit 0) ⟨[(4, .own (.l69 l4))], [(1000, b43.enc t1000)]⟩
noncomputable def c72l1f (k : Nat) (K : Ex → St UU → Option ρ) (n : Nat) (v : c72l1.T) : Option ρ := parse_list_api_Expr__p0_fwhole_l1 k (c72y0 K) n v.1.2.1 v.2.1
noncomputable def c72_c (k : Nat) : Cfg UX ρ := cfgOf UX ρ 19 [(0, [0, 1]), (1, [0, 1, 4]), (2, [0, 1, 4]), (3, [0, 1, 4]), (4, [4])] [] (tk := [(1000000, [4])]) (loops := [(1, runD_ ρ c72l1 fun K => c72l1f k K k)]) (xe := [(1, [(0, [4], [])])])
noncomputable def c72_L : List Code := selI [1] (loopsOf (bodyOf Try.f58))
theorem c72l1i0 (k : Nat) : IterOK UX (c72_c (ρ := ρ) k) (c72_G k).1 (c72_L.getD 0 .skip) 1 (runD_ ρ c72l1 fun K => c72l1f k K k) := iterD (X := UX) (k := k) c72l1 (c72l1f k) (fun K rec v => parse_list_api_Expr__p0_fwhole_l1_b k (c72y0 K) (fun l4 t1000 => rec ((((), ()), l4, ()), t1000, ())) v.1.2.1 v.2.1) (fun K n v => by kernel_rfl) (fun _ _ => rfl) fun _ _ _ => rfl
theorem c72_k (k : Nat) : COK (c72_c (ρ := ρ) k) (c72_G k).1 (bodyOf Try.f58) :=
  cok_of (tl := [(1, runD_ ρ c72l1 fun K => c72l1f k K k)]) (tj := []) (tb := []) rfl rfl rfl (all_nth 1 (by kernel_rfl) ⟨iter_case (by kernel_rfl) rfl (c72l1i0 k), trivial⟩) (nil_all (by kernel_rfl)) (fun p hp => by cases hp)
theorem c72_n (k : Nat) : ConD (X := UX) Try.prog 58 c72_a c72_b c72_d (fun a b => parse_list_api_Expr__p0_fwhole k b.1) := conD xok tok Try.func58 (by kernel_rfl) (g := c72_G k) (c := c72_c k) rfl (c72_k k) (fun _ => by kernel_rfl) fun a b => by kernel_rfl
noncomputable def c72_A (k : Nat) : AP UX Try.prog ρ 58 := apD Try.func58 (by kernel_rfl) c72_a c72_b c72_d _ (c72_n k)


/-! (*cadastre/parse.reader).insert$1$1 -/
noncomputable def c73_a := Dc.cons0 (Dc.rp 1000) <| A0
noncomputable def c73_b := Dc.cons b43 <| B0
noncomputable def c73_d := Dc.two o_l69 (Dc.last b43)
noncomputable def c73_G (k : Nat) : GP UX Try.prog ρ := gC 58 (c72_A k) <| gN
noncomputable def c73_c (k : Nat) : Cfg UX ρ := cfgOf UX ρ 6 [(0, [0]), (1, [0])] []
theorem c73_n (k : Nat) : ConD (X := UX) Try.prog 57 c73_a c73_b c73_d (fun a b => parse_reader_insert_1_1_q0 k b.1) := conD xok tok Try.func57 (by kernel_rfl) (g := c73_G k) (c := c73_c k) rfl (cok0 rfl rfl rfl) (fun _ => by kernel_rfl) fun a b => by kernel_rfl
noncomputable def c73_A (k : Nat) : AP UX Try.prog ρ 57 := apD Try.func57 (by kernel_rfl) c73_a c73_b c73_d _ (c73_n k)


/-! cadastre/parse.in[[]cadastre/api.Expr] -/
noncomputable def c74_a := Dc.cons0 (Dc.p 1000 0) <| Dc.cons (Dc.fn 57 (V0) (Dc.cons0 (Dc.srp 1000) <| V0)) <| A0
noncomputable def c74_b := Dc.cons b43 <| B0
noncomputable def c74_d := Dc.two o_l69 (Dc.last b43)
noncomputable def c74_G (k : Nat) : GP UX Try.prog ρ := gC 27 (c36_A k) <| gC 57 (c73_A k) <| gN
noncomputable def c74_c (k : Nat) : Cfg UX ρ := cfgOf UX ρ 15 [(0, [0, 1]), (1, [0, 1]), (2, [0, 1]), (3, [0, 5]), (4, [5])] []
theorem c74_n (k : Nat) : ConD (X := UX) Try.prog 56 c74_a c74_b c74_d (fun a b => parse_in_Lapi_Expr__p0_finsert_1_1 k b.1) := conD xok tok Try.func56 (by kernel_rfl) (g := c74_G k) (c := c74_c k) rfl (cok0 rfl rfl rfl) (fun _ => by kernel_rfl) fun a b => by kernel_rfl
noncomputable def c74_A (k : Nat) : AP UX Try.prog ρ 56 := apD Try.func56 (by kernel_rfl) c74_a c74_b c74_d _ (c74_n k)


/-! (*cadastre/parse.reader).insert$1 -/
noncomputable def c75_a := Dc.cons0 (Dc.rp 1000) <| A0
noncomputable def c75_b := Dc.cons b43 <| B0
noncomputable def c75_d := Dc.two o_l69 (Dc.last b43)
noncomputable def c75_G (k : Nat) : GP UX Try.prog ρ := gC 56 (c74_A k) <| gN
noncomputable def c75_c (k : Nat) : Cfg UX ρ := cfgOf UX ρ 5 [(0, [0]), (1, [0])] [] (tk := [(1000002, [3])])
theorem c75_n (k : Nat) : ConD (X := UX) Try.prog 55 c75_a c75_b c75_d (fun a b => parse_reader_insert_1_q0 k b.1) := conD xok tok Try.func55 (by kernel_rfl) (g := c75_G k) (c := c75_c k) rfl (cok0 rfl rfl rfl) (fun _ => by kernel_rfl) fun a b => by kernel_rfl
noncomputable def c75_A (k : Nat) : AP UX Try.prog ρ 55 := apD Try.func55 (by kernel_rfl) c75_a c75_b c75_d _ (c75_n k)


/-! cadastre/parse.list[[]cadastre/api.Expr] -/
noncomputable def c76_a := Dc.cons0 (Dc.p 1000 0) <| Dc.cons (Dc.fn 55 (V0) (Dc.cons0 (Dc.srp 1000) <| V0)) <| A0
noncomputable def c76_b := Dc.cons b43 <| B0
noncomputable def c76_d := Dc.two o_ll69 (Dc.last b43)
noncomputable def c76_G (k : Nat) : GP UX Try.prog ρ := gC 55 (c75_A k) <| gC 13 (c33_A k) <| gN
noncomputable def c76l1 := Dc.st (Dc.at0 0 (Dc.p 1000 0) <| Dc.at_ 1 (Dc.fn 55 (V0) (Dc.cons0 (Dc.srp 1000) <| V0)) <| Dc.at_ 4 o_ll69 <| E0) (Dc.at_ 1000 b43 <| H0)
noncomputable def c76y0 (K : Ex → St UU → Option ρ) (l4 : List (List TExpr)) (t1000 : Sreader) : Option ρ := K (.exit 0) ⟨[(4, .own (.ll69 l4))], [(1000, b43.enc t1000)]⟩
noncomputable def c76l1f (k : Nat) (K : Ex → St UU → Option ρ) (n : Nat) (v : c76l1.T) : Option ρ := parse_list_Lapi_Expr__p0_finsert_1_l1 k (c76y0 K) n v.1.2.1 v.2.1
noncomputable def c76_c (k : Nat) : Cfg UX ρ := cfgOf UX ρ 19 [(0, [0, 1]), (1, [0, 1, 4]), (2, [0, 1, 4]), (3, [0, 1, 4]), (4, [4])] [] (tk := [(1000000, [4])]) (loops := [(1, runD_ ρ c76l1 fun K => c76l1f k K k)]) (xe := [(1, [(0, [4], [])])])
noncomputable def c76_L : List Code := selI [1] (loopsOf (bodyOf Try.f54))
theorem c76l1i0 (k : Nat) : IterOK UX (c76_c (ρ := ρ) k) (c76_G k).1 (c76_L.getD 0 .skip) 1 (runD_ ρ c76l1 fun K => c76l1f k K k) := iterD (X := UX) (k := k) c76l1 (c76l1f k) (fun K rec v => parse_list_Lapi_Expr__p0_finsert_1_l1_b k (c76y0 K) (fun l4 t1000 => rec ((((), ()), l4, ()), t1000, ())) v.1.2.1 v.2.1) (fun K n v => by kernel_rfl) (fun _ _ => rfl) fun _ _ _ => rfl
theorem c76_k (k : Nat) : COK (c76_c (ρ := ρ) k) (c76_G k).1 (bodyOf Try.f54) :=
  cok_of (tl := [(1, runD_ ρ c76l1 fun K => c76l1f k K k)]) (tj := []) (tb := []) rfl rfl rfl (all_nth 1 (by kernel_rfl) ⟨iter_case (by kernel_rfl) rfl (c76l1i0 k), trivial⟩) (nil_all (by kernel_rfl)) (fun p hp => by cases hp)
theorem c76_n (k : Nat) : ConD (X := UX) Try.prog 54 c76_a c76_b c76_d (fun a b => parse_list_Lapi_Expr__p0_finsert_1 k b.1) := conD xok tok Try.func54 (by kernel_rfl) (g := c76_G k) (c := c76_c k) rfl (c76_k k) (fun _ => by kernel_rfl) fun a b => by kernel_rfl
noncomputable def c76_A (k : Nat) : AP UX Try.prog ρ 54 := apD Try.func54 (by kernel_rfl) c76_a c76_b c76_d _ (c76_n k)


/-! (*cadastre/parse.reader).insert -/
noncomputable def c77_a := Dc.cons0 (Dc.p 1000 0) <| A0
noncomputable def c77_b := Dc.cons b43 <| B0
noncomputable def c77_d := Dc.two p_s28.pv (Dc.last b43)
noncomputable def c77_G (k : Nat) : GP UX Try.prog ρ := gC 27 (c36_A k) <| gC 28 (c35_A k) <| gC 54 (c76_A k) <| gC 14 (c41_A k) <| gN
noncomputable def c77l6 := Dc.st (Dc.at0 1 (Dc.rp 1000) <| Dc.at0 2 (Dc.p 2 0) <| Dc.at0 3 (Dc.p 3 0) <| Dc.at_ 20 p_ll69.pv <| Dc.at_ 21 pi_i64.pv <| Dc.at_ 22 pi_i64.pv <| E0) (Dc.at_ 2 b28 <| Dc.at_ 3 b28 <| Dc.at_ 1000 b43 <| H0)
noncomputable def c77y0 (K : Ex → St UU → Option ρ) (t2 : SStmt) (s3 : SStmt) (t1000 : Sreader) : Option ρ := K (.exit 0) ⟨[(2, .ptr 2 0), (3, .ptr 3 0)], [(2, b28.enc t2), (3, b28.enc s3), (1000, b43.enc t1000)]⟩
noncomputable def c77l6f (k : Nat) (K : Ex → St UU → Option ρ) (n : Nat) (v : c77l6.T) : Option ρ := parse_reader_insert_p0_l6 k (c77y0 K) n v.1.1 v.1.2.1 v.1.2.2.1 v.2.1 v.2.2.1 v.2.2.2.1
noncomputable def c77_c (k : Nat) : Cfg UX ρ := cfgOf UX ρ 32 [(0, [0]), (1, [1, 2]), (2, [1, 2]), (3, [1, 2, 3]), (4, [1, 2, 3]), (5, [1, 2, 3]), (6, [1, 2, 3, 20, 21, 22]), (7, [1, 2, 3, 20, 21, 22]), (8, [1, 2, 3, 5, 20, 21, 22]), (9, [1, 2, 3, 20, 21, 22]), (10, [2, 3])] [(1, [2]), (2, [2]), (3, [2, 3]), (4, [2, 3]), (5, [2, 3]), (6, [2, 3]), (7, [2, 3]), (8, [2, 3]), (9, [2, 3]), (10, [2, 3])] (tk := [(1000002, [16]), (4000001, [1])]) (loops := [(6, runD_ ρ c77l6 fun K => c77l6f k K k)]) (xe := [(6, [(0, [2, 3], [2, 3])])])
noncomputable def c77_L : List Code := selI [6] (loopsOf (bodyOf Try.f26))
theorem c77l6i0 (k : Nat) : IterOK UX (c77_c (ρ := ρ) k) (c77_G k).1 (c77_L.getD 0 .skip) 6 (runD_ ρ c77l6 fun K => c77l6f k K k) := iterD (X := UX) (k := k) c77l6 (c77l6f k) (fun K rec v => parse_reader_insert_p0_l6_b k (c77y0 K) (fun t20 t21 t22 t2 s3 t1000 => rec ((t20, t21, t22, ()), t2, s3, t1000, ())) v.1.1 v.1.2.1 v.1.2.2.1 v.2.1 v.2.2.1 v.2.2.2.1) (fun K n v => by kernel_rfl) (fun _ _ => rfl) fun _ _ _ => rfl
theorem c77_k (k : Nat) : COK (c77_c (ρ := ρ) k) (c77_G k).1 (bodyOf Try.f26) :=
  cok_of (tl := [(6, runD_ ρ c77l6 fun K => c77l6f k K k)]) (tj := []) (tb := []) rfl rfl rfl (all_nth 1 (by kernel_rfl) ⟨iter_case (by kernel_rfl) rfl (c77l6i0 k), trivial⟩) (nil_all (by kernel_rfl)) (fun p hp => by cases hp)
theorem c77_n (k : Nat) : ConD (X := UX) Try.prog 26 c77_a c77_b c77_d (fun a b => parse_reader_insert_p0 k b.1) := conD xok tok Try.func26 (by kernel_rfl) (g := c77_G k) (c := c77_c k) rfl (c77_k k) (fun _ => by kernel_rfl) fun a b => by kernel_rfl
noncomputable def c77_A (k : Nat) : AP UX Try.prog ρ 26 := apD Try.func26 (by kernel_rfl) c77_a c77_b c77_d _ (c77_n k)


/-! (*cadastre/parse.reader).where -/
noncomputable def c78_a := Dc.cons0 (Dc.p 1000 0) <| A0
noncomputable def c78_b := Dc.cons b43 <| B0
noncomputable def c78_d := Dc.two o_l69 (Dc.last b43)
noncomputable def c78_G (k : Nat) : GP UX Try.prog ρ := gC 13 (c33_A k) <| gC 59 (c71_A k) <| gN
noncomputable def c78_c (k : Nat) : Cfg UX ρ := cfgOf UX ρ 8 [(0, [0]), (1, [0]), (2, [0])] [] (tk := [(1000000, [2])])
theorem c78_n (k : Nat) : ConD (X := UX) Try.prog 29 c78_a c78_b c78_d (fun a b => parse_reader_where_p0 k b.1) := conD xok tok Try.func29 (by kernel_rfl) (g := c78_G k) (c := c78_c k) rfl (cok0 rfl rfl rfl) (fun _ => by kernel_rfl) fun a b => by kernel_rfl
noncomputable def c78_A (k : Nat) : AP UX Try.prog ρ 29 := apD Try.func29 (by kernel_rfl) c78_a c78_b c78_d _ (c78_n k)


/-! (*cadastre/parse.reader).update$1 -/
noncomputable def c79_a := Dc.cons0 (Dc.rp 1000) <| A0
noncomputable def c79_b := Dc.cons b43 <| B0
noncomputable def c79_d := Dc.two p_s71.pv (Dc.last b43)
noncomputable def c79_G (k : Nat) : GP UX Try.prog ρ := gC 28 (c35_A k) <| gC 27 (c36_A k) <| gC 59 (c71_A k) <| gN
noncomputable def c79_c (k : Nat) : Cfg UX ρ := cfgOf UX ρ 13 [(0, [0]), (1, [0, 1]), (2, [0, 1, 2]), (3, [0, 1, 2]), (4, [1, 2])] [(1, [1]), (2, [1, 2]), (3, [1, 2]), (4, [1, 2])]
theorem c79_n (k : Nat) : ConD (X := UX) Try.prog 62 c79_a c79_b c79_d (fun a b => parse_reader_update_1_q0 k b.1) := conD xok tok Try.func62 (by kernel_rfl) (g := c79_G k) (c := c79_c k) rfl (cok0 rfl rfl rfl) (fun _ => by kernel_rfl) fun a b => by kernel_rfl
noncomputable def c79_A (k : Nat) : AP UX Try.prog ρ 62 := apD Try.func62 (by kernel_rfl) c79_a c79_b c79_d _ (c79_n k)


/-! cadastre/parse.list[cadastre/api.Set] -/
noncomputable def c80_a := Dc.cons0 (Dc.p 1000 0) <| Dc.cons (Dc.fn 62 (V0) (Dc.cons0 (Dc.srp 1000) <| V0)) <| A0
noncomputable def c80_b := Dc.cons b43 <| B0
noncomputable def c80_d := Dc.two o_l71 (Dc.last b43)
noncomputable def c80_G (k : Nat) : GP UX Try.prog ρ := gC 62 (c79_A k) <| gC 13 (c33_A k) <| gN
noncomputable def c80l1 := Dc.st (Dc.at0 0 (Dc.p 1000 0) <| Dc.at_ 1 (Dc.fn 62 (V0) (Dc.cons0 (Dc.srp 1000) <| V0)) <| Dc.at_ 4 o_l71 <| E0) (Dc.at_ 1000 b43 <| H0)
noncomputable def c80y0 (K : Ex → St UU → Option ρ) (l4 : List SSet) (t1000 : Sreader) : Option ρ := K (.exit 0) ⟨[(4, .own (.l71 l4))], [(1000, b43.enc t1000)]⟩
noncomputable def c80l1f (k : Nat) (K : Ex → St UU → Option ρ) (n : Nat) (v : c80l1.T) : Option ρ := parse_list_api_Set__p0_fupdate_1_l1 k (c80y0 K) n v.1.2.1 v.2.1
noncomputable def c80_c (k : Nat) : Cfg UX ρ := cfgOf UX ρ 19 [(0, [0, 1]), (1, [0, 1, 4]), (2, [0, 1, 4]), (3, [0, 1, 4]), (4, [4])] [] (tk := [(1000000, [4])]) (loops := [(1, runD_ ρ c80l1 fun K => c80l1f k K k)]) (xe := [(1, [(0, [4], [])])])
noncomputable def c80_L : List Code := selI [1] (loopsOf (bodyOf Try.f61))
theorem c80l1i0 (k : Nat) : IterOK UX (c80_c (ρ := ρ) k) (c80_G k).1 (c80_L.getD 0 .skip) 1 (runD_ ρ c80l1 fun K => c80l1f k K k) := iterD (X := UX) (k := k) c80l1 (c80l1f k) (fun K rec v => parse_list_api_Set__p0_fupdate_1_l1_b k (c80y0 K) (fun l4 t1000 => rec ((((), ()), l4, ()), t1000, ())) v.1.2.1 v.2.1) (fun K n v => by kernel_rfl) (fun _ _ => rfl) fun _ _ _ => rfl
theorem c80_k (k : Nat) : COK (c80_c (ρ := ρ) k) (c80_G k).1 (bodyOf Try.f61) :=
  cok_of (tl := [(1, runD_ ρ c80l1 fun K => c80l1f k K k)]) (tj := []) (tb := []) rfl rfl rfl (all_nth 1 (by kernel_rfl) ⟨iter_case (by kernel_rfl) rfl (c80l1i0 k), trivial⟩) (nil_all (by kernel_rfl)) (fun p hp => by cases hp)
theorem c80_n (k : Nat) : ConD (X := UX) Try.prog 61 c80_a c80_b c80_d (fun a b => parse_list_api_Set__p0_fupdate_1 k b.1) := conD xok tok Try.func61 (by kernel_rfl) (g := c80_G k) (c := c80_c k) rfl (c80_k k) (fun _ => by kernel_rfl) fun a b => by kernel_rfl
noncomputable def c80_A (k : Nat) : AP UX Try.prog ρ 61 := apD Try.func61 (by kernel_rfl) c80_a c80_b c80_d _ (c80_n k)


/-! (*cadastre/parse.reader).update -/
noncomputable def c81_a := Dc.cons0 (Dc.p 1000 0) <| A0
noncomputable def c81_b := Dc.cons b43 <| B0
noncomputable def c81_d := Dc.two p_s28.pv (Dc.last b43)
noncomputable def c81_G (k : Nat) : GP UX Try.prog ρ := gC 28 (c35_A k) <| gC 27 (c36_A k) <| gC 61 (c80_A k) <| gC 14 (c41_A k) <| gC 29 (c78_A k) <| gN
noncomputable def c81_c (k : Nat) : Cfg UX ρ := cfgOf UX ρ 23 [(0, [0]), (1, [1, 2]), (2, [1, 2, 3]), (3, [1, 2, 3]), (4, [1, 2, 3]), (5, [1, 2, 3]), (6, [2, 3])] [(1, [2]), (2, [2, 3]), (3, [2, 3]), (4, [2, 3]), (5, [2, 3]), (6, [2, 3])] (tk := [(1000002, [11]), (4000001, [1])])
theorem c81_n (k : Nat) : ConD (X := UX) Try.prog 30 c81_a c81_b c81_d (fun a b => parse_reader_update_p0 k b.1) := conD xok tok Try.func30 (by kernel_rfl) (g := c81_G k) (c := c81_c k) rfl (cok0 rfl rfl rfl) (fun _ => by kernel_rfl) fun a b => by kernel_rfl
noncomputable def c81_A (k : Nat) : AP UX Try.prog ρ 30 := apD Try.func30 (by kernel_rfl) c81_a c81_b c81_d _ (c81_n k)


/-! (*cadastre/parse.reader).query$1 -/
noncomputable def c82_a := Dc.cons0 (Dc.rp 1000) <| A0
noncomputable def c82_b := Dc.cons b43 <| B0
noncomputable def c82_d := Dc.two p_s75.pv (Dc.last b43)
noncomputable def c82_G (k : Nat) : GP UX Try.prog ρ := gC 59 (c71_A k) <| gC 13 (c33_A k) <| gN
noncomputable def c82_c (k : Nat) : Cfg UX ρ := cfgOf UX ρ 9 [(0, [0]), (1, [0, 1]), (2, [0, 1, 2])] [(1, [1]), (2, [1, 2])]
theorem c82_n (k : Nat) : ConD (X := UX) Try.prog 65 c82_a c82_b c82_d (fun a b => parse_reader_query_1_q0 k b.1) := conD xok tok Try.func65 (by kernel_rfl) (g := c82_G k) (c := c82_c k) rfl (cok0 rfl rfl rfl) (fun _ => by kernel_rfl) fun a b => by kernel_rfl
noncomputable def c82_A (k : Nat) : AP UX Try.prog ρ 65 := apD Try.func65 (by kernel_rfl) c82_a c82_b c82_d _ (c82_n k)


/-! cadastre/parse.list[cadastre/api.Order] -/
noncomputable def c83_a := Dc.cons0 (Dc.p 1000 0) <| Dc.cons (Dc.fn 65 (V0) (Dc.cons0 (Dc.srp 1000) <| V0)) <| A0
noncomputable def c83_b := Dc.cons b43 <| B0
noncomputable def c83_d := Dc.two o_l75 (Dc.last b43)
noncomputable def c83_G (k : Nat) : GP UX Try.prog ρ := gC 65 (c82_A k) <| gC 13 (c33_A k) <| gN
noncomputable def c83l1 := Dc.st (Dc.at0 0 (Dc.p 1000 0) <| Dc.at_ 1 (Dc.fn 65 (V0) (Dc.cons0 (Dc.srp 1000) <| V0)) <| Dc.at_ 4 o_l75 <| E0) (Dc.at_ 1000 b43 <| H0)
noncomputable def c83y0 (K : Ex → St UU → Option ρ) (l4 : List SOrder) (t1000 : Sreader) : Option ρ := K (.exit 0) ⟨[(4, .own (.l75 l4))], [(1000, b43.enc t1000)]⟩
noncomputable def c83l1f (k : Nat) (K : Ex → St UU → Option ρ) (n : Nat) (v : c83l1.T) : Option ρ := parse_list_api_Order__p0_fquery_1_l1 k (c83y0 K) n v.1.2.1 v.2.1
noncomputable def c83_c (k : Nat) : Cfg UX ρ := cfgOf UX ρ 19 [(0, [0, 1]), (1, [0, 1, 4]), (2, [0, 1, 4]), (3, [0, 1, 4]), (4, [4])] [] (tk := [(1000000, [4])]) (loops := [(1, runD_ ρ c83l1 fun K => c83l1f k K k)]) (xe := [(1, [(0, [4], [])])])
noncomputable def c83_L : List Code := selI [1] (loopsOf (bodyOf Try.f64))
theorem c83l1i0 (k : Nat) : IterOK UX (c83_c (ρ := ρ) k) (c83_G k).1 (c83_L.getD 0 .skip) 1 (runD_ ρ c83l1 fun K => c83l1f k K k) := iterD (X := UX) (k := k) c83l1 (c83l1f k) (fun K rec v => parse_list_api_Order__p0_fquery_1_l1_b k (c83y0 K) (fun l4 t1000 => rec ((((), ()), l4, ()), t1000, ())) v.1.2.1 v.2.1) (fun K n v => by kernel_rfl) (fun _ _ => rfl) fun _ _ _ => rfl
theorem c83_k (k : Nat) : COK (c83_c (ρ := ρ) k) (c83_G k).1 (bodyOf Try.f64) :=
  cok_of (tl := [(1, runD_ ρ c83l1 fun K => c83l1f k K k)]) (tj := []) (tb := []) rfl rfl rfl (all_nth 1 (by kernel_rfl) ⟨iter_case (by kernel_rfl) rfl (c83l1i0 k), trivial⟩) (nil_all (by kernel_rfl)) (fun p hp => by cases hp)
theorem c83_n (k : Nat) : ConD (X := UX) Try.prog 64 c83_a c83_b c83_d (fun a b => parse_list_api_Order__p0_fquery_1 k b.1) := conD xok tok Try.func64 (by kernel_rfl) (g := c83_G k) (c := c83_c k) rfl (c83_k k) (fun _ => by kernel_rfl) fun a b => by kernel_rfl
noncomputable def c83_A (k : Nat) : AP UX Try.prog ρ 64 := apD Try.func64 (by kernel_rfl) c83_a c83_b c83_d _ (c83_n k)


/-! (*cadastre/parse.reader).query -/
noncomputable def c84_a := Dc.cons0 (Dc.p 1000 0) <| A0
noncomputable def c84_b := Dc.cons b43 <| B0
noncomputable def c84_d := Dc.two p_s28.pv (Dc.last b43)
noncomputable def c84_G (k : Nat) : GP UX Try.prog ρ := gC 13 (c33_A k) <| gC 58 (c72_A k) <| gC 27 (c36_A k) <| gC 63 (c42_A k) <| gC 29 (c78_A k) <| gC 64 (c83_A k) <| gC 14 (c41_A k) <| gN
noncomputable def c84j10 := Dc.st (Dc.at0 1 (Dc.rp 1000) <| Dc.at0 2 (Dc.p 2 0) <| Dc.at0 3 (Dc.p 3 0) <| E0) (Dc.at_ 2 b28 <| Dc.at_ 3 b28 <| Dc.at_ 1000 b43 <| H0)
noncomputable def c84y0 (K : Ex → St UU → Option ρ) (t2 : SStmt) (t1000 : Sreader) : Option ρ := K .ret ⟨[(2, .ptr 2 0)], [(2, b28.enc t2), (1000, b43.enc t1000)]⟩
noncomputable def c84j10f (k : Nat) (K : Ex → St UU → Option ρ) (v : c84j10.T) : Option ρ := parse_reader_query_p0_j10 k (c84y0 K) v.2.1 v.2.2.1 v.2.2.2.1
noncomputable def c84j4 := Dc.st (Dc.at0 1 (Dc.rp 1000) <| Dc.at0 2 (Dc.p 2 0) <| Dc.at0 3 (Dc.p 3 0) <| E0) (Dc.at_ 2 b28 <| Dc.at_ 3 b28 <| Dc.at_ 1000 b43 <| H0)
noncomputable def c84j4f (k : Nat) (K : Ex → St UU → Option ρ) (v : c84j4.T) : Option ρ := parse_reader_query_p0_j4 k (c84y0 K) v.2.1 v.2.2.1 v.2.2.2.1
noncomputable def c84_c (k : Nat) : Cfg UX ρ := cfgOf UX ρ 51 [(0, [0]), (1, [1, 2]), (2, [1, 2, 3]), (3, [1, 2, 3]), (4, [1, 2, 3]), (5, [1, 2, 3]), (6, [1, 2, 3]), (7, [1, 2, 3]), (8, [1, 2, 3]), (9, [1, 2, 3]), (10, [1, 2, 3]), (11, [1, 2, 3]), (12, [1, 2, 3]), (13, [2, 3])] [(1, [2]), (2, [2, 3]), (3, [2, 3]), (4, [2, 3]), (5, [2, 3]), (6, [2, 3]), (7, [2, 3]), (8, [2, 3]), (9, [2, 3]), (10, [2, 3]), (11, [2, 3]), (12, [2, 3]), (13, [2, 3])] (tk := [(1000002, [32]), (4000001, [1])]) (joins := [(10, runD_ ρ c84j10 (c84j10f k)), (4, runD_ ρ c84j4 (c84j4f k))]) (xr := [(10, [2], [2]), (4, [2], [2])])
noncomputable def c84_J : List Code := selI [10, 4] (joinsOf (bodyOf Try.f31))
theorem c84j4i0 (k : Nat) : JoinOK UX (c84_c (ρ := ρ) k) (c84_G k).1 (c84_J.getD 0 .skip) 4 (runD_ ρ c84j4 (c84j4f k)) := joinD (X := UX) c84j4 (c84j4f k) fun K v => by kernel_rfl
theorem c84j10i1 (k : Nat) : JoinOK UX (c84_c (ρ := ρ) k) (c84_G k).1 (c84_J.getD 1 .skip) 10 (runD_ ρ c84j10 (c84j10f k)) := joinD (X := UX) c84j10 (c84j10f k) fun K v => by kernel_rfl
theorem c84_k (k : Nat) : COK (c84_c (ρ := ρ) k) (c84_G k).1 (bodyOf Try.f31) :=
  cok_of (tl := []) (tj := [(10, runD_ ρ c84j10 (c84j10f k)), (4, runD_ ρ c84j4 (c84j4f k))]) (tb := []) rfl rfl rfl (nil_all (by kernel_rfl)) (all_nth 2 (by kernel_rfl) ⟨join_case (by kernel_rfl) rfl (c84j10i1 k), join_case (by kernel_rfl) rfl (c84j4i0 k), trivial⟩) (fun p hp => by cases hp)
theorem c84_n (k : Nat) : ConD (X := UX) Try.prog 31 c84_a c84_b c84_d (fun a b => parse_reader_query_p0 k b.1) := conD xok tok Try.func31 (by kernel_rfl) (g := c84_G k) (c := c84_c k) rfl (c84_k k) (fun _ => by kernel_rfl) fun a b => by kernel_rfl
noncomputable def c84_A (k : Nat) : AP UX Try.prog ρ 31 := apD Try.func31 (by kernel_rfl) c84_a c84_b c84_d _ (c84_n k)


/-! (*cadastre/parse.reader).statement -/
noncomputable def c85_a := Dc.cons0 (Dc.p 1000 0) <| A0
noncomputable def c85_b := Dc.cons b43 <| B0
noncomputable def c85_d := Dc.two p_s28.pv (Dc.last b43)
noncomputable def c85_G (k : Nat) : GP UX Try.prog ρ := gC 13 (c33_A k) <| gC 24 (c46_A k) <| gC 25 (c47_A k) <| gC 26 (c77_A k) <| gC 27 (c36_A k) <| gC 28 (c35_A k) <| gC 29 (c78_A k) <| gC 30 (c81_A k) <| gC 31 (c84_A k) <| gC 32 (c34_A k) <| gN
noncomputable def c85_c (k : Nat) : Cfg UX ρ := cfgOf UX ρ 56 [(0, [0]), (1, [0, 2]), (2, [0, 2]), (3, [0, 2]), (4, [0, 2]), (5, [0, 2]), (6, [0, 2]), (7, [0, 2]), (8, [0, 2]), (9, [0, 2]), (10, [0, 2]), (11, [2]), (12, [0, 2]), (13, [0, 2]), (14, [0, 2]), (15, [0, 2]), (16, [0, 2]), (17, [2]), (18, [0, 2]), (19, [2]), (20, [0, 2]), (21, [2]), (22, [0, 2]), (23, [2])] [(1, [2]), (2, [2]), (3, [2]), (4, [2]), (5, [2]), (6, [2]), (7, [2]), (8, [2]), (9, [2]), (10, [2]), (11, [2]), (12, [2]), (13, [2]), (14, [2]), (15, [2]), (16, [2]), (17, [2]), (18, [2]), (19, [2]), (20, [2]), (21, [2]), (22, [2]), (23, [2])]
theorem c85_n (k : Nat) : ConD (X := UX) Try.prog 12 c85_a c85_b c85_d (fun a b => parse_reader_statement_p0 k b.1) := conD xok tok Try.func12 (by kernel_rfl) (g := c85_G k) (c := c85_c k) rfl (cok0 rfl rfl rfl) (fun _ => by kernel_rfl) fun a b => by kernel_rfl
noncomputable def c85_A (k : Nat) : AP UX Try.prog ρ 12 := apD Try.func12 (by kernel_rfl) c85_a c85_b c85_d _ (c85_n k)


/-! cadastre/parse.Parse -/
noncomputable def c86_a := Dc.cons ps.pv <| A0
noncomputable def c86_d := one_ (Dc.tup (Dc.cons p_s28 <| Dc.last pi_i64)).pv
noncomputable def c86_G (k : Nat) : GP UX Try.prog ρ := gC 11 (c23_A k) <| gC 12 (c85_A k) <| gC 13 (c33_A k) <| gC 14 (c41_A k) <| gN
noncomputable def c86j10 := Dc.st (Dc.at0 2 (Dc.p 2 0) <| Dc.at0 6 (Dc.p 19 0) <| Dc.at0 7 (Dc.p 7 0) <| E0) (Dc.at_ 2 b28 <| Dc.at_ 7 b28 <| Dc.at_ 19 b43 <| H0)
noncomputable def c86y0 (K : Ex → St UU → Option ρ) (t3 : Int) (t2 : SStmt) : Option ρ := K .ret ⟨[(2, .ptr 2 0), (3, .pv (.int .i64 t3))], [(2, b28.enc t2)]⟩
noncomputable def c86y1 (K : Ex → St UU → Option ρ) (t2 : SStmt) (x7 : SStmt) : Option ρ := K .nxt ⟨[(2, .ptr 2 0), (7, .ptr 7 0)], [(2, b28.enc t2), (7, b28.enc x7)]⟩
noncomputable def c86j10f (k : Nat) (K : Ex → St UU → Option ρ) (v : c86j10.T) : Option ρ := parse_Parse_j10 k (c86y0 K) (c86y1 K) v.2.1 v.2.2.1 v.2.2.2.1
noncomputable def c86_c (k : Nat) : Cfg UX ρ := cfgOf UX ρ 51 [(0, [0]), (1, [0, 2]), (2, [2, 4, 5]), (3, [2, 5]), (4, [2, 4]), (5, [2, 6]), (6, [2, 6, 7]), (7, [2, 6, 7]), (8, [2, 6, 7]), (9, [2]), (10, [2, 6, 7]), (11, [2]), (12, [2, 7])] [(1, [2]), (2, [2]), (3, [2]), (4, [2]), (5, [2, 19]), (6, [2, 7, 19]), (7, [2, 7, 19]), (8, [2, 7, 19]), (9, [2]), (10, [2, 7, 19]), (11, [2]), (12, [2, 7])] (joins := [(10, runD_ ρ c86j10 (c86j10f k))]) (xn := [(10, [2, 7], [2, 7])]) (xr := [(10, [2, 3], [2])])
noncomputable def c86_J : List Code := selI [10] (joinsOf (bodyOf Try.f6))
theorem c86j10i0 (k : Nat) : JoinOK UX (c86_c (ρ := ρ) k) (c86_G k).1 (c86_J.getD 0 .skip) 10 (runD_ ρ c86j10 (c86j10f k)) := joinD (X := UX) c86j10 (c86j10f k) fun K v => by kernel_rfl
theorem c86_k (k : Nat) : COK (c86_c (ρ := ρ) k) (c86_G k).1 (bodyOf Try.f6) :=
  cok_of (tl := []) (tj := [(10, runD_ ρ c86j10 (c86j10f k))]) (tb := []) rfl rfl rfl (nil_all (by kernel_rfl)) (all_nth 1 (by kernel_rfl) ⟨join_case (by kernel_rfl) rfl (c86j10i0 k), trivial⟩) (fun p hp => by cases hp)
theorem c86_n (k : Nat) : ConD (X := UX) Try.prog 6 c86_a B0 c86_d (fun a b => parse_Parse k a.1) := conD xok tok Try.func6 (by kernel_rfl) (g := c86_G k) (c := c86_c k) rfl (c86_k k) (fun _ => by kernel_rfl) fun a b => by kernel_rfl
noncomputable def c86_A (k : Nat) : AP UX Try.prog ρ 6 := apD Try.func6 (by kernel_rfl) c86_a B0 c86_d _ (c86_n k)


/-! cadastre/cadastrelaw20.num -/
noncomputable def c87_a := Dc.cons pi_i64.pv <| A0
noncomputable def c87_d := one_ pi_i64.pv
noncomputable def c87_G (k : Nat) : GP UX Try.prog ρ := gN
noncomputable def c87_c (k : Nat) : Cfg UX ρ := cfgOf UX ρ 4 [(0, [0]), (1, [0])] []
theorem c87_n (k : Nat) : ConD (X := UX) Try.prog 7 c87_a B0 c87_d (fun a b => cadastrelaw20_num k a.1) := conD xok tok Try.func7 (by kernel_rfl) (g := c87_G k) (c := c87_c k) rfl (cok0 rfl rfl rfl) (fun _ => by kernel_rfl) fun a b => by kernel_rfl
noncomputable def c87_A (k : Nat) : AP UX Try.prog ρ 7 := apD Try.func7 (by kernel_rfl) c87_a B0 c87_d _ (c87_n k)


/-! cadastre/cadastreref0.EqColumns -/
noncomputable def c88_a := Dc.cons p_l64.pv <| Dc.cons p_l64.pv <| A0
noncomputable def c88_d := one_ pb.pv
noncomputable def c88_G (k : Nat) : GP UX Try.prog ρ := gN
noncomputable def c88l4 := Dc.st (Dc.at_ 0 p_l64.pv <| Dc.at_ 1 p_l64.pv <| Dc.at_ 5 pi_i64.pv <| E0) (H0)
noncomputable def c88y0 (K : Ex → St UU → Option ρ) (t4 : Bool) : Option ρ := K .ret ⟨[(4, .pv (.bool t4))], []⟩
noncomputable def c88y1 (K : Ex → St UU → Option ρ) : Option ρ := K (.exit 0) ⟨[], []⟩
noncomputable def c88l4f (k : Nat) (K : Ex → St UU → Option ρ) (n : Nat) (v : c88l4.T) : Option ρ := cadastreref0_EqColumns_l4 k (c88y0 K) (c88y1 K) n v.1.1 v.1.2.1 v.1.2.2.1
noncomputable def c88_c (k : Nat) : Cfg UX ρ := cfgOf UX ρ 26 [(0, [0, 1]), (1, [0, 1]), (3, [0, 1]), (4, [0, 1, 5]), (5, [0, 1, 5]), (6, [0, 1, 5])] [] (loops := [(4, runD_ ρ c88l4 fun K => c88l4f k K k)]) (xr := [(4, [4], [])]) (xe := [(4, [(0, [], [])])])
noncomputable def c88_L : List Code := selI [4] (loopsOf (bodyOf Try.f15))
theorem c88l4i0 (k : Nat) : IterOK UX (c88_c (ρ := ρ) k) (c88_G k).1 (c88_L.getD 0 .skip) 4 (runD_ ρ c88l4 fun K => c88l4f k K k) := iterD (X := UX) (k := k) c88l4 (c88l4f k) (fun K rec v => cadastreref0_EqColumns_l4_b k (c88y0 K) (c88y1 K) (fun a0 b1 i5 => rec ((a0, b1, i5, ()), ())) v.1.1 v.1.2.1 v.1.2.2.1) (fun K n v => by kernel_rfl) (fun _ _ => rfl) fun _ _ _ => rfl
theorem c88_k (k : Nat) : COK (c88_c (ρ := ρ) k) (c88_G k).1 (bodyOf Try.f15) :=
  cok_of (tl := [(4, runD_ ρ c88l4 fun K => c88l4f k K k)]) (tj := []) (tb := []) rfl rfl rfl (all_nth 1 (by kernel_rfl) ⟨iter_case (by kernel_rfl) rfl (c88l4i0 k), trivial⟩) (nil_all (by kernel_rfl)) (fun p hp => by cases hp)
theorem c88_n (k : Nat) : ConD (X := UX) Try.prog 15 c88_a B0 c88_d (fun a b => cadastreref0_EqColumns k a.1 a.2.1) := conD xok tok Try.func15 (by kernel_rfl) (g := c88_G k) (c := c88_c k) rfl (c88_k k) (fun _ => by kernel_rfl) fun a b => by kernel_rfl
noncomputable def c88_A (k : Nat) : AP UX Try.prog ρ 15 := apD Try.func15 (by kernel_rfl) c88_a B0 c88_d _ (c88_n k)


/-! cadastre/cadastreref0.EqStrings -/
noncomputable def c89_a := Dc.cons p_ls.pv <| Dc.cons p_ls.pv <| A0
noncomputable def c89_d := one_ pb.pv
noncomputable def c89_G (k : Nat) : GP UX Try.prog ρ := gN
noncomputable def c89l4 := Dc.st (Dc.at_ 0 p_ls.pv <| Dc.at_ 1 p_ls.pv <| Dc.at_ 5 pi_i64.pv <| E0) (H0)
noncomputable def c89y0 (K : Ex → St UU → Option ρ) (t4 : Bool) : Option ρ := K .ret ⟨[(4, .pv (.bool t4))], []⟩
noncomputable def c89y1 (K : Ex → St UU → Option ρ) : Option ρ := K (.exit 0) ⟨[], []⟩
noncomputable def c89l4f (k : Nat) (K : Ex → St UU → Option ρ) (n : Nat) (v : c89l4.T) : Option ρ := cadastreref0_EqStrings_l4 k (c89y0 K) (c89y1 K) n v.1.1 v.1.2.1 v.1.2.2.1
noncomputable def c89_c (k : Nat) : Cfg UX ρ := cfgOf UX ρ 26 [(0, [0, 1]), (1, [0, 1]), (3, [0, 1]), (4, [0, 1, 5]), (5, [0, 1, 5]), (6, [0, 1, 5])] [] (loops := [(4, runD_ ρ c89l4 fun K => c89l4f k K k)]) (xr := [(4, [4], [])]) (xe := [(4, [(0, [], [])])])
noncomputable def c89_L : List Code := selI [4] (loopsOf (bodyOf Try.f16))
theorem c89l4i0 (k : Nat) : IterOK UX (c89_c (ρ := ρ) k) (c89_G k).1 (c89_L.getD 0 .skip) 4 (runD_ ρ c89l4 fun K => c89l4f k K k) := iterD (X := UX) (k := k) c89l4 (c89l4f k) (fun K rec v => cadastreref0_EqStrings_l4_b k (c89y0 K) (c89y1 K) (fun a0 b1 i5 => rec ((a0, b1, i5, ()), ())) v.1.1 v.1.2.1 v.1.2.2.1) (fun K n v => by kernel_rfl) (fun _ _ => rfl) fun _ _ _ => rfl
theorem c89_k (k : Nat) : COK (c89_c (ρ := ρ) k) (c89_G k).1 (bodyOf Try.f16) :=
  cok_of (tl := [(4, runD_ ρ c89l4 fun K => c89l4f k K k)]) (tj := []) (tb := []) rfl rfl rfl (all_nth 1 (by kernel_rfl) ⟨iter_case (by kernel_rfl) rfl (c89l4i0 k), trivial⟩) (nil_all (by kernel_rfl)) (fun p hp => by cases hp)
theorem c89_n (k : Nat) : ConD (X := UX) Try.prog 16 c89_a B0 c89_d (fun a b => cadastreref0_EqStrings k a.1 a.2.1) := conD xok tok Try.func16 (by kernel_rfl) (g := c89_G k) (c := c89_c k) rfl (c89_k k) (fun _ => by kernel_rfl) fun a b => by kernel_rfl
noncomputable def c89_A (k : Nat) : AP UX Try.prog ρ 16 := apD Try.func16 (by kernel_rfl) c89_a B0 c89_d _ (c89_n k)

abbrev c90 := cadastreref0_EqExprs_R
noncomputable def c91_a := Dc.cons p_l69.pv <| Dc.cons p_l69.pv <| A0
noncomputable def c91_d := one_ pb.pv
noncomputable def c92_a := Dc.cons p_s69.pv <| Dc.cons p_s69.pv <| A0
noncomputable def c92_d := one_ pb.pv
structure c90_ok (rc : c90) : Prop where
  c91 : ConD (X := UX) Try.prog 19 c91_a B0 c91_d (fun a b => rc.cadastreref0_EqExprs a.1 a.2.1)
  c92 : ConD (X := UX) Try.prog 35 c92_a B0 c92_d (fun a b => rc.cadastreref0_EqExpr a.1 a.2.1)
noncomputable def c91_A0 {rc : c90} (hrc : c90_ok rc) : AP UX Try.prog ρ 19 := apD Try.func19 (by kernel_rfl) c91_a B0 c91_d _ hrc.c91
noncomputable def c92_A0 {rc : c90} (hrc : c90_ok rc) : AP UX Try.prog ρ 35 := apD Try.func35 (by kernel_rfl) c92_a B0 c92_d _ hrc.c92

/-! cadastre/cadastreref0.EqExprs -/
noncomputable def c91_G (k : Nat) (rc : c90) (hrc : c90_ok rc) : GP UX Try.prog ρ := gC 35 (c92_A0 hrc) <| gN
noncomputable def c91l4 := Dc.st (Dc.at_ 0 p_l69.pv <| Dc.at_ 1 p_l69.pv <| Dc.at_ 5 pi_i64.pv <| E0) (H0)
noncomputable def c91y0 (K : Ex → St UU → Option ρ) (t4 : Bool) : Option ρ := K .ret ⟨[(4, .pv (.bool t4))], []⟩
noncomputable def c91y1 (K : Ex → St UU → Option ρ) : Option ρ := K (.exit 0) ⟨[], []⟩
noncomputable def c91l4f (k : Nat) (rc : c90) (K : Ex → St UU → Option ρ) (n : Nat) (v : c91l4.T) : Option ρ := cadastreref0_EqExprs_l4 k rc (c91y0 K) (c91y1 K) n v.1.1 v.1.2.1 v.1.2.2.1
noncomputable def c91_c (k : Nat) (rc : c90) : Cfg UX ρ := cfgOf UX ρ 27 [(0, [0, 1]), (1, [0, 1]), (3, [0, 1]), (4, [0, 1, 5]), (5, [0, 1, 5]), (6, [0, 1, 5])] [] (loops := [(4, runD_ ρ c91l4 fun K => c91l4f k rc K k)]) (xr := [(4, [4], [])]) (xe := [(4, [(0, [], [])])])
noncomputable def c91_L : List Code := selI [4] (loopsOf (bodyOf Try.f19))
theorem c91l4i0 (k : Nat) (rc : c90) (hrc : c90_ok rc) : IterOK UX (c91_c (ρ := ρ) k rc) (c91_G k rc hrc).1 (c91_L.getD 0 .skip) 4 (runD_ ρ c91l4 fun K => c91l4f k rc K k) := iterD (X := UX) (k := k) c91l4 (c91l4f k rc) (fun K rec v => cadastreref0_EqExprs_l4_b k rc (c91y0 K) (c91y1 K) (fun a0 b1 i5 => rec ((a0, b1, i5, ()), ())) v.1.1 v.1.2.1 v.1.2.2.1) (fun K n v => by kernel_rfl) (fun _ _ => rfl) fun _ _ _ => rfl
theorem c91_k (k : Nat) (rc : c90) (hrc : c90_ok rc) : COK (c91_c (ρ := ρ) k rc) (c91_G k rc hrc).1 (bodyOf Try.f19) :=
  cok_of (tl := [(4, runD_ ρ c91l4 fun K => c91l4f k rc K k)]) (tj := []) (tb := []) rfl rfl rfl (all_nth 1 (by kernel_rfl) ⟨iter_case (by kernel_rfl) rfl (c91l4i0 k rc hrc), trivial⟩) (nil_all (by kernel_rfl)) (fun p hp => by cases hp)
theorem c91_n0 (k : Nat) (rc : c90) (hrc : c90_ok rc) : ConD (X := UX) Try.prog 19 c91_a B0 c91_d (fun a b => cadastreref0_EqExprs_r k rc a.1 a.2.1) := conD xok tok Try.func19 (by kernel_rfl) (g := c91_G k rc hrc) (c := c91_c k rc) rfl (c91_k k rc hrc) (fun _ => by kernel_rfl) fun a b => by kernel_rfl

/-! cadastre/cadastreref0.EqExpr -/
noncomputable def c92_G (k : Nat) (rc : c90) (hrc : c90_ok rc) : GP UX Try.prog ρ := gC 19 (c91_A0 hrc) <| gN
noncomputable def c92_c (k : Nat) (rc : c90) : Cfg UX ρ := cfgOf UX ρ 38 [(0, [0, 1]), (1, [2, 3])] [(1, [2, 3])]
theorem c92_n0 (k : Nat) (rc : c90) (hrc : c90_ok rc) : ConD (X := UX) Try.prog 35 c92_a B0 c92_d (fun a b => cadastreref0_EqExpr_r k rc a.1 a.2.1) := conD xok tok Try.func35 (by kernel_rfl) (g := c92_G k rc hrc) (c := c92_c k rc) rfl (cok0 rfl rfl rfl) (fun _ => by kernel_rfl) fun a b => by kernel_rfl
theorem c90_it (k : Nat) : ∀ d, c90_ok (cadastreref0_EqExprs_R_it k d)
  | 0 => ⟨ConD.zero, ConD.zero⟩
  | d + 1 => ⟨c91_n0 k _ (c90_it k d), c92_n0 k _ (c90_it k d)⟩
theorem c91_n (k : Nat) : ConD (X := UX) Try.prog 19 c91_a B0 c91_d (fun a b => cadastreref0_EqExprs k a.1 a.2.1) := (c90_it k k).c91
noncomputable def c91_A (k : Nat) : AP UX Try.prog ρ 19 := apD Try.func19 (by kernel_rfl) c91_a B0 c91_d _ (c91_n k)
theorem c92_n (k : Nat) : ConD (X := UX) Try.prog 35 c92_a B0 c92_d (fun a b => cadastreref0_EqExpr k a.1 a.2.1) := (c90_it k k).c92
noncomputable def c92_A (k : Nat) : AP UX Try.prog ρ 35 := apD Try.func35 (by kernel_rfl) c92_a B0 c92_d _ (c92_n k)


/-! cadastre/cadastreref0.EqLines -/
noncomputable def c93_a := Dc.cons p_ll69.pv <| Dc.cons p_ll69.pv <| A0
noncomputable def c93_d := one_ pb.pv
noncomputable def c93_G (k : Nat) : GP UX Try.prog ρ := gC 19 (c91_A k) <| gN
noncomputable def c93l4 := Dc.st (Dc.at_ 0 p_ll69.pv <| Dc.at_ 1 p_ll69.pv <| Dc.at_ 5 pi_i64.pv <| E0) (H0)
noncomputable def c93y0 (K : Ex → St UU → Option ρ) (t4 : Bool) : Option ρ := K .ret ⟨[(4, .pv (.bool t4))], []⟩
noncomputable def c93y1 (K : Ex → St UU → Option ρ) : Option ρ := K (.exit 0) ⟨[], []⟩
noncomputable def c93l4f (k : Nat) (K : Ex → St UU → Option ρ) (n : Nat) (v : c93l4.T) : Option ρ := cadastreref0_EqLines_l4 k (c93y0 K) (c93y1 K) n v.1.1 v.1.2.1 v.1.2.2.1
noncomputable def c93_c (k : Nat) : Cfg UX ρ := cfgOf UX ρ 27 [(0, [0, 1]), (1, [0, 1]), (3, [0, 1]), (4, [0, 1, 5]), (5, [0, 1, 5]), (6, [0, 1, 5])] [] (loops := [(4, runD_ ρ c93l4 fun K => c93l4f k K k)]) (xr := [(4, [4], [])]) (xe := [(4, [(0, [], [])])])
noncomputable def c93_L : List Code := selI [4] (loopsOf (bodyOf Try.f17))
theorem c93l4i0 (k : Nat) : IterOK UX (c93_c (ρ := ρ) k) (c93_G k).1 (c93_L.getD 0 .skip) 4 (runD_ ρ c93l4 fun K => c93l4f k K k) := iterD (X := UX) (k := k) c93l4 (c93l4f k) (fun K rec v => cadastreref0_EqLines_l4_b k (c93y0 K) (c93y1 K) (fun a0 b1 i5 => rec ((a0, b1, i5, ()), ())) v.1.1 v.1.2.1 v.1.2.2.1) (fun K n v => by kernel_rfl) (fun _ _ => rfl) fun _ _ _ => rfl
theorem c93_k (k : Nat) : COK (c93_c (ρ := ρ) k) (c93_G k).1 (bodyOf Try.f17) :=
  cok_of (tl := [(4, runD_ ρ c93l4 fun K => c93l4f k K k)]) (tj := []) (tb := []) rfl rfl rfl (all_nth 1 (by kernel_rfl) ⟨iter_case (by kernel_rfl) rfl (c93l4i0 k), trivial⟩) (nil_all (by kernel_rfl)) (fun p hp => by cases hp)
theorem c93_n (k : Nat) : ConD (X := UX) Try.prog 17 c93_a B0 c93_d (fun a b => cadastreref0_EqLines k a.1 a.2.1) := conD xok tok Try.func17 (by kernel_rfl) (g := c93_G k) (c := c93_c k) rfl (c93_k k) (fun _ => by kernel_rfl) fun a b => by kernel_rfl
noncomputable def c93_A (k : Nat) : AP UX Try.prog ρ 17 := apD Try.func17 (by kernel_rfl) c93_a B0 c93_d _ (c93_n k)


/-! cadastre/cadastreref0.EqSet -/
noncomputable def c94_a := Dc.cons p_s71.pv <| Dc.cons p_s71.pv <| A0
noncomputable def c94_d := one_ pb.pv
noncomputable def c94_G (k : Nat) : GP UX Try.prog ρ := gC 35 (c92_A k) <| gN
noncomputable def c94_c (k : Nat) : Cfg UX ρ := cfgOf UX ρ 17 [(0, [0, 1]), (1, [2, 3])] [(1, [2, 3])]
theorem c94_n (k : Nat) : ConD (X := UX) Try.prog 34 c94_a B0 c94_d (fun a b => cadastreref0_EqSet k a.1 a.2.1) := conD xok tok Try.func34 (by kernel_rfl) (g := c94_G k) (c := c94_c k) rfl (cok0 rfl rfl rfl) (fun _ => by kernel_rfl) fun a b => by kernel_rfl
noncomputable def c94_A (k : Nat) : AP UX Try.prog ρ 34 := apD Try.func34 (by kernel_rfl) c94_a B0 c94_d _ (c94_n k)


/-! cadastre/cadastreref0.EqSets -/
noncomputable def c95_a := Dc.cons p_l71.pv <| Dc.cons p_l71.pv <| A0
noncomputable def c95_d := one_ pb.pv
noncomputable def c95_G (k : Nat) : GP UX Try.prog ρ := gC 34 (c94_A k) <| gN
noncomputable def c95l4 := Dc.st (Dc.at_ 0 p_l71.pv <| Dc.at_ 1 p_l71.pv <| Dc.at_ 5 pi_i64.pv <| E0) (H0)
noncomputable def c95y0 (K : Ex → St UU → Option ρ) (t4 : Bool) : Option ρ := K .ret ⟨[(4, .pv (.bool t4))], []⟩
noncomputable def c95y1 (K : Ex → St UU → Option ρ) : Option ρ := K (.exit 0) ⟨[], []⟩
noncomputable def c95l4f (k : Nat) (K : Ex → St UU → Option ρ) (n : Nat) (v : c95l4.T) : Option ρ := cadastreref0_EqSets_l4 k (c95y0 K) (c95y1 K) n v.1.1 v.1.2.1 v.1.2.2.1
noncomputable def c95_c (k : Nat) : Cfg UX ρ := cfgOf UX ρ 27 [(0, [0, 1]), (1, [0, 1]), (3, [0, 1]), (4, [0, 1, 5]), (5, [0, 1, 5]), (6, [0, 1, 5])] [] (loops := [(4, runD_ ρ c95l4 fun K => c95l4f k K k)]) (xr := [(4, [4], [])]) (xe := [(4, [(0, [], [])])])
noncomputable def c95_L : List Code := selI [4] (loopsOf (bodyOf Try.f18))
theorem c95l4i0 (k : Nat) : IterOK UX (c95_c (ρ := ρ) k) (c95_G k).1 (c95_L.getD 0 .skip) 4 (runD_ ρ c95l4 fun K => c95l4f k K k) := iterD (X := UX) (k := k) c95l4 (c95l4f k) (fun K rec v => cadastreref0_EqSets_l4_b k (c95y0 K) (c95y1 K) (fun a0 b1 i5 => rec ((a0, b1, i5, ()), ())) v.1.1 v.1.2.1 v.1.2.2.1) (fun K n v => by kernel_rfl) (fun _ _ => rfl) fun _ _ _ => rfl
theorem c95_k (k : Nat) : COK (c95_c (ρ := ρ) k) (c95_G k).1 (bodyOf Try.f18) :=
  cok_of (tl := [(4, runD_ ρ c95l4 fun K => c95l4f k K k)]) (tj := []) (tb := []) rfl rfl rfl (all_nth 1 (by kernel_rfl) ⟨iter_case (by kernel_rfl) rfl (c95l4i0 k), trivial⟩) (nil_all (by kernel_rfl)) (fun p hp => by cases hp)
theorem c95_n (k : Nat) : ConD (X := UX) Try.prog 18 c95_a B0 c95_d (fun a b => cadastreref0_EqSets k a.1 a.2.1) := conD xok tok Try.func18 (by kernel_rfl) (g := c95_G k) (c := c95_c k) rfl (c95_k k) (fun _ => by kernel_rfl) fun a b => by kernel_rfl
noncomputable def c95_A (k : Nat) : AP UX Try.prog ρ 18 := apD Try.func18 (by kernel_rfl) c95_a B0 c95_d _ (c95_n k)


/-! cadastre/cadastreref0.EqOrder -/
noncomputable def c96_a := Dc.cons p_s75.pv <| Dc.cons p_s75.pv <| A0
noncomputable def c96_d := one_ pb.pv
noncomputable def c96_G (k : Nat) : GP UX Try.prog ρ := gC 35 (c92_A k) <| gN
noncomputable def c96_c (k : Nat) : Cfg UX ρ := cfgOf UX ρ 17 [(0, [0, 1]), (1, [2, 3])] [(1, [2, 3])]
theorem c96_n (k : Nat) : ConD (X := UX) Try.prog 36 c96_a B0 c96_d (fun a b => cadastreref0_EqOrder k a.1 a.2.1) := conD xok tok Try.func36 (by kernel_rfl) (g := c96_G k) (c := c96_c k) rfl (cok0 rfl rfl rfl) (fun _ => by kernel_rfl) fun a b => by kernel_rfl
noncomputable def c96_A (k : Nat) : AP UX Try.prog ρ 36 := apD Try.func36 (by kernel_rfl) c96_a B0 c96_d _ (c96_n k)


/-! cadastre/cadastreref0.EqOrders -/
noncomputable def c97_a := Dc.cons p_l75.pv <| Dc.cons p_l75.pv <| A0
noncomputable def c97_d := one_ pb.pv
noncomputable def c97_G (k : Nat) : GP UX Try.prog ρ := gC 36 (c96_A k) <| gN
noncomputable def c97l4 := Dc.st (Dc.at_ 0 p_l75.pv <| Dc.at_ 1 p_l75.pv <| Dc.at_ 5 pi_i64.pv <| E0) (H0)
noncomputable def c97y0 (K : Ex → St UU → Option ρ) (t4 : Bool) : Option ρ := K .ret ⟨[(4, .pv (.bool t4))], []⟩
noncomputable def c97y1 (K : Ex → St UU → Option ρ) : Option ρ := K (.exit 0) ⟨[], []⟩
noncomputable def c97l4f (k : Nat) (K : Ex → St UU → Option ρ) (n : Nat) (v : c97l4.T) : Option ρ := cadastreref0_EqOrders_l4 k (c97y0 K) (c97y1 K) n v.1.1 v.1.2.1 v.1.2.2.1
noncomputable def c97_c (k : Nat) : Cfg UX ρ := cfgOf UX ρ 27 [(0, [0, 1]), (1, [0, 1]), (3, [0, 1]), (4, [0, 1, 5]), (5, [0, 1, 5]), (6, [0, 1, 5])] [] (loops := [(4, runD_ ρ c97l4 fun K => c97l4f k K k)]) (xr := [(4, [4], [])]) (xe := [(4, [(0, [], [])])])
noncomputable def c97_L : List Code := selI [4] (loopsOf (bodyOf Try.f20))
theorem c97l4i0 (k : Nat) : IterOK UX (c97_c (ρ := ρ) k) (c97_G k).1 (c97_L.getD 0 .skip) 4 (runD_ ρ c97l4 fun K => c97l4f k K k) := iterD (X := UX) (k := k) c97l4 (c97l4f k) (fun K rec v => cadastreref0_EqOrders_l4_b k (c97y0 K) (c97y1 K) (fun a0 b1 i5 => rec ((a0, b1, i5, ()), ())) v.1.1 v.1.2.1 v.1.2.2.1) (fun K n v => by kernel_rfl) (fun _ _ => rfl) fun _ _ _ => rfl
theorem c97_k (k : Nat) : COK (c97_c (ρ := ρ) k) (c97_G k).1 (bodyOf Try.f20) :=
  cok_of (tl := [(4, runD_ ρ c97l4 fun K => c97l4f k K k)]) (tj := []) (tb := []) rfl rfl rfl (all_nth 1 (by kernel_rfl) ⟨iter_case (by kernel_rfl) rfl (c97l4i0 k), trivial⟩) (nil_all (by kernel_rfl)) (fun p hp => by cases hp)
theorem c97_n (k : Nat) : ConD (X := UX) Try.prog 20 c97_a B0 c97_d (fun a b => cadastreref0_EqOrders k a.1 a.2.1) := conD xok tok Try.func20 (by kernel_rfl) (g := c97_G k) (c := c97_c k) rfl (c97_k k) (fun _ => by kernel_rfl) fun a b => by kernel_rfl
noncomputable def c97_A (k : Nat) : AP UX Try.prog ρ 20 := apD Try.func20 (by kernel_rfl) c97_a B0 c97_d _ (c97_n k)


/-! cadastre/cadastreref0.EqStmt -/
noncomputable def c98_a := Dc.cons p_s28.pv <| Dc.cons p_s28.pv <| A0
noncomputable def c98_d := one_ pb.pv
noncomputable def c98_G (k : Nat) : GP UX Try.prog ρ := gC 15 (c88_A k) <| gC 16 (c89_A k) <| gC 17 (c93_A k) <| gC 18 (c95_A k) <| gC 19 (c91_A k) <| gC 20 (c97_A k) <| gN
noncomputable def c98_c (k : Nat) : Cfg UX ρ := cfgOf UX ρ 94 [(0, [0, 1]), (1, [2, 3])] [(1, [2, 3])]
theorem c98_n (k : Nat) : ConD (X := UX) Try.prog 8 c98_a B0 c98_d (fun a b => cadastreref0_EqStmt k a.1 a.2.1) := conD xok tok Try.func8 (by kernel_rfl) (g := c98_G k) (c := c98_c k) rfl (cok0 rfl rfl rfl) (fun _ => by kernel_rfl) fun a b => by kernel_rfl
noncomputable def c98_A (k : Nat) : AP UX Try.prog ρ 8 := apD Try.func8 (by kernel_rfl) c98_a B0 c98_d _ (c98_n k)


/-! cadastre/cadastrelaw20.wakes -/
noncomputable def c99_a := A0
noncomputable def c99_d := one_ pb.pv
noncomputable def c99_G (k : Nat) : GP UX Try.prog ρ := gC 6 (c86_A k) <| gC 7 (c87_A k) <| gN
noncomputable def c99_c (k : Nat) : Cfg UX ρ := cfgOf UX ρ 15 [(2, [1, 2])] [(2, [1])]
theorem c99_n (k : Nat) : ConD (X := UX) Try.prog 9 c99_a B0 c99_d (fun a b => cadastrelaw20_wakes k) := conD xok tok Try.func9 (by kernel_rfl) (g := c99_G k) (c := c99_c k) rfl (cok0 rfl rfl rfl) (fun _ => by kernel_rfl) fun a b => by kernel_rfl
noncomputable def c99_A (k : Nat) : AP UX Try.prog ρ 9 := apD Try.func9 (by kernel_rfl) c99_a B0 c99_d _ (c99_n k)


/-! cadastre/cadastrelaw20.ParseEnds -/
noncomputable def c100_a := Dc.cons p_ls.pv <| A0
noncomputable def c100_d := one_ pb.pv
noncomputable def c100_G (k : Nat) : GP UX Try.prog ρ := gC 6 (c86_A k) <| gC 7 (c87_A k) <| gC 8 (c98_A k) <| gC 9 (c99_A k) <| gN
noncomputable def c100j4 := Dc.st (Dc.at_ 0 p_ls.pv <| Dc.at_ 3 pi_i64.pv <| E0) (H0)
noncomputable def c100y0 (K : Ex → St UU → Option ρ) (t2 : Bool) : Option ρ := K .ret ⟨[(2, .pv (.bool t2))], []⟩
noncomputable def c100y1 (K : Ex → St UU → Option ρ) (l0 : List ByteArray) (i3 : Int) : Option ρ := K .nxt ⟨[(0, .pv (.typ (.ls l0))), (3, .pv (.int .i64 i3))], []⟩
noncomputable def c100j4f (k : Nat) (K : Ex → St UU → Option ρ) (v : c100j4.T) : Option ρ := cadastrelaw20_ParseEnds_j4 k (c100y0 K) (c100y1 K) v.1.1 v.1.2.1
noncomputable def c100l2 := Dc.st (Dc.at_ 0 p_ls.pv <| Dc.at_ 3 pi_i64.pv <| E0) (H0)
noncomputable def c100y2 (K : Ex → St UU → Option ρ) : Option ρ := K (.exit 0) ⟨[], []⟩
noncomputable def c100l2f (k : Nat) (K : Ex → St UU → Option ρ) (n : Nat) (v : c100l2.T) : Option ρ := cadastrelaw20_ParseEnds_l2 k (c100y0 K) (c100y2 K) n v.1.1 v.1.2.1
noncomputable def c100_c (k : Nat) : Cfg UX ρ := cfgOf UX ρ 146 [(0, [0]), (1, [0]), (2, [0, 3]), (3, [0, 3]), (4, [0, 3]), (6, [0, 3]), (7, [0, 3, 4, 5]), (8, [0, 3, 4]), (9, [0, 3, 4, 6, 7]), (10, [0, 3, 4, 6, 7, 8, 9]), (11, [0, 3, 4, 6, 7, 8, 9, 11]), (12, [0, 3, 4, 6, 7, 8, 9, 11, 13]), (13, [0, 3, 4, 6, 7, 8, 9, 11, 13, 14]), (16, [15, 16]), (17, [15, 16, 17, 18])] [(7, [4]), (8, [4]), (9, [4, 6]), (10, [4, 6, 8]), (11, [4, 6, 8]), (12, [4, 6, 8]), (13, [4, 6, 8]), (16, [15]), (17, [15, 17])] (loops := [(2, runD_ ρ c100l2 fun K => c100l2f k K k)]) (joins := [(4, runD_ ρ c100j4 (c100j4f k))]) (xn := [(4, [0, 3], [])]) (xr := [(4, [2], []), (2, [2], [])]) (xe := [(2, [(0, [], [])])])
noncomputable def c100_L : List Code := selI [2] (loopsOf (bodyOf Try.f3))
noncomputable def c100_J : List Code := selI [4] (joinsOf (bodyOf Try.f3))
theorem c100l2i0 (k : Nat) : IterOK UX (c100_c (ρ := ρ) k) (c100_G k).1 (c100_L.getD 0 .skip) 2 (runD_ ρ c100l2 fun K => c100l2f k K k) := iterD (X := UX) (k := k) c100l2 (c100l2f k) (fun K rec v => cadastrelaw20_ParseEnds_l2_b k (c100y0 K) (c100y2 K) (fun l0 i3 => rec ((l0, i3, ()), ())) v.1.1 v.1.2.1) (fun K n v => by kernel_rfl) (fun _ _ => rfl) fun _ _ _ => rfl
theorem c100j4i0 (k : Nat) : JoinOK UX (c100_c (ρ := ρ) k) (c100_G k).1 (c100_J.getD 0 .skip) 4 (runD_ ρ c100j4 (c100j4f k)) := joinD (X := UX) c100j4 (c100j4f k) fun K v => by kernel_rfl
theorem c100_k (k : Nat) : COK (c100_c (ρ := ρ) k) (c100_G k).1 (bodyOf Try.f3) :=
  cok_of (tl := [(2, runD_ ρ c100l2 fun K => c100l2f k K k)]) (tj := [(4, runD_ ρ c100j4 (c100j4f k))]) (tb := []) rfl rfl rfl (all_nth 1 (by kernel_rfl) ⟨iter_case (by kernel_rfl) rfl (c100l2i0 k), trivial⟩) (all_nth 1 (by kernel_rfl) ⟨join_case (by kernel_rfl) rfl (c100j4i0 k), trivial⟩) (fun p hp => by cases hp)
theorem c100_n (k : Nat) : ConD (X := UX) Try.prog 3 c100_a B0 c100_d (fun a b => cadastrelaw20_ParseEnds k a.1) := conD xok tok Try.func3 (by kernel_rfl) (g := c100_G k) (c := c100_c k) rfl (c100_k k) (fun _ => by kernel_rfl) fun a b => by kernel_rfl
noncomputable def c100_A (k : Nat) : AP UX Try.prog ρ 3 := apD Try.func3 (by kernel_rfl) c100_a B0 c100_d _ (c100_n k)
theorem cadastrelaw20_ParseEnds_con (k : Nat) (l0 : List ByteArray) (r : Bool) (h : cadastrelaw20_ParseEnds k l0 = some r) : Con (X := UX) Try.prog 3 [.pv (.typ (.ls l0))] [] (.pv (.bool r)) [] := c100_n k (l0, ()) () r h


/-! cadastre/cadastrelaw0.Within -/
noncomputable def c101_a := Dc.cons pi_i64.pv <| Dc.cons pi_i64.pv <| A0
noncomputable def c101_d := one_ pi_i64.pv
noncomputable def c101_G (k : Nat) : GP UX Try.prog ρ := gN
noncomputable def c101_c (k : Nat) : Cfg UX ρ := cfgOf UX ρ 11 [(0, [0, 1]), (1, [0, 1])] []
theorem c101_n (k : Nat) : ConD (X := UX) Try.prog 10 c101_a B0 c101_d (fun a b => cadastrelaw0_Within k a.1 a.2.1) := conD xok tok Try.func10 (by kernel_rfl) (g := c101_G k) (c := c101_c k) rfl (cok0 rfl rfl rfl) (fun _ => by kernel_rfl) fun a b => by kernel_rfl
noncomputable def c101_A (k : Nat) : AP UX Try.prog ρ 10 := apD Try.func10 (by kernel_rfl) c101_a B0 c101_d _ (c101_n k)


/-! cadastre/cadastrelaw20.ParseLevels -/
noncomputable def c102_a := Dc.cons p_ls.pv <| A0
noncomputable def c102_d := one_ pb.pv
noncomputable def c102_G (k : Nat) : GP UX Try.prog ρ := gC 10 (c101_A k) <| gC 6 (c86_A k) <| gC 7 (c87_A k) <| gC 8 (c98_A k) <| gC 9 (c99_A k) <| gN
noncomputable def c102j14 := Dc.st (Dc.at_ 0 p_ls.pv <| Dc.at_ 3 o_lls <| Dc.at_ 4 pi_i64.pv <| Dc.at_ 5 pi_i64.pv <| Dc.at0 8 (Dc.p 8 0) <| Dc.at_ 9 pi_i64.pv <| Dc.at_ 10 ps.pv <| E0) (Dc.at_ 8 b28 <| H0)
noncomputable def c102y0 (K : Ex → St UU → Option ρ) (t2 : Bool) : Option ρ := K .ret ⟨[(2, .pv (.bool t2))], []⟩
noncomputable def c102y1 (K : Ex → St UU → Option ρ) (l0 : List ByteArray) (levels3 : List (List ByteArray)) (i4 : Int) (k5 : Int) : Option ρ := K .nxt ⟨[(0, .pv (.typ (.ls l0))), (3, .own (.lls levels3)), (4, .pv (.int .i64 i4)), (5, .pv (.int .i64 k5))], []⟩
noncomputable def c102j14f (k : Nat) (K : Ex → St UU → Option ρ) (v : c102j14.T) : Option ρ := cadastrelaw20_ParseLevels_j14 k (c102y0 K) (c102y1 K) v.1.1 v.1.2.1 v.1.2.2.1 v.1.2.2.2.1 v.1.2.2.2.2.1 v.1.2.2.2.2.2.1 v.2.1
noncomputable def c102l6 := Dc.st (Dc.at_ 0 p_ls.pv <| Dc.at_ 3 o_lls <| Dc.at_ 4 pi_i64.pv <| Dc.at_ 5 pi_i64.pv <| E0) (H0)
noncomputable def c102y2 (K : Ex → St UU → Option ρ) (l0 : List ByteArray) (levels3 : List (List ByteArray)) (i4 : Int) : Option ρ := K (.exit 2) ⟨[(0, .pv (.typ (.ls l0))), (3, .own (.lls levels3)), (4, .pv (.int .i64 i4))], []⟩
noncomputable def c102l6f (k : Nat) (K : Ex → St UU → Option ρ) (n : Nat) (v : c102l6.T) : Option ρ := cadastrelaw20_ParseLevels_l6 k (c102y0 K) (c102y2 K) n v.1.1 v.1.2.1 v.1.2.2.1 v.1.2.2.2.1
noncomputable def c102l3 := Dc.st (Dc.at_ 0 p_ls.pv <| Dc.at_ 3 o_lls <| Dc.at_ 4 pi_i64.pv <| E0) (H0)
noncomputable def c102y3 (K : Ex → St UU → Option ρ) : Option ρ := K (.exit 0) ⟨[], []⟩
noncomputable def c102l3f (k : Nat) (K : Ex → St UU → Option ρ) (n : Nat) (v : c102l3.T) : Option ρ := cadastrelaw20_ParseLevels_l3 k (c102y0 K) (c102y3 K) n v.1.1 v.1.2.1 v.1.2.2.1
noncomputable def c102_c (k : Nat) : Cfg UX ρ := cfgOf UX ρ 132 [(0, [0]), (1, [0]), (2, [0, 3]), (3, [0, 3, 4]), (4, [0, 3, 4]), (5, [0, 3, 4]), (6, [0, 3, 4, 5]), (7, [0, 3, 4, 5]), (8, [0, 3, 4, 5]), (9, [0, 3, 4, 5, 6]), (10, [0, 3, 4, 5, 6, 7]), (11, [0, 3, 4, 5, 6, 7, 8, 9]), (12, [0, 3, 4, 5, 6, 7, 8, 9, 10]), (13, [0, 3, 4, 5, 6, 7, 8, 9]), (14, [0, 3, 4, 5, 8, 9, 10]), (15, [0, 3, 4, 5, 8, 9, 11, 12]), (18, [13, 14]), (19, [13, 14, 15, 16])] [(11, [8]), (12, [8]), (13, [8]), (14, [8]), (15, [8, 11]), (18, [13]), (19, [13, 15])] (tk := [(4000000, [17, 18, 19, 20, 21, 22])]) (loops := [(6, runD_ ρ c102l6 fun K => c102l6f k K k), (3, runD_ ρ c102l3 fun K => c102l3f k K k)]) (joins := [(14, runD_ ρ c102j14 (c102j14f k))]) (xn := [(14, [0, 3, 4, 5], [])]) (xr := [(14, [2], []), (6, [2], []), (3, [2], [])]) (xe := [(6, [(2, [0, 3, 4], [])]), (3, [(0, [], [])])])
noncomputable def c102_L : List Code := selI [6, 3] (loopsOf (bodyOf Try.f4))
noncomputable def c102_J : List Code := selI [14] (joinsOf (bodyOf Try.f4))
theorem c102l3i0 (k : Nat) : IterOK UX (c102_c (ρ := ρ) k) (c102_G k).1 (c102_L.getD 0 .skip) 3 (runD_ ρ c102l3 fun K => c102l3f k K k) := iterD (X := UX) (k := k) c102l3 (c102l3f k) (fun K rec v => cadastrelaw20_ParseLevels_l3_b k (c102y0 K) (c102y3 K) (fun l0 levels3 i4 => rec ((l0, levels3, i4, ()), ())) v.1.1 v.1.2.1 v.1.2.2.1) (fun K n v => by kernel_rfl) (fun _ _ => rfl) fun _ _ _ => rfl
theorem c102l6i1 (k : Nat) : IterOK UX (c102_c (ρ := ρ) k) (c102_G k).1 (c102_L.getD 1 .skip) 6 (runD_ ρ c102l6 fun K => c102l6f k K k) := iterD (X := UX) (k := k) c102l6 (c102l6f k) (fun K rec v => cadastrelaw20_ParseLevels_l6_b k (c102y0 K) (c102y2 K) (fun l0 levels3 i4 k5 => rec ((l0, levels3, i4, k5, ()), ())) v.1.1 v.1.2.1 v.1.2.2.1 v.1.2.2.2.1) (fun K n v => by kernel_rfl) (fun _ _ => rfl) fun _ _ _ => rfl
theorem c102j14i0 (k : Nat) : JoinOK UX (c102_c (ρ := ρ) k) (c102_G k).1 (c102_J.getD 0 .skip) 14 (runD_ ρ c102j14 (c102j14f k)) := joinD (X := UX) c102j14 (c102j14f k) fun K v => by kernel_rfl
theorem c102_k (k : Nat) : COK (c102_c (ρ := ρ) k) (c102_G k).1 (bodyOf Try.f4) :=
  cok_of (tl := [(6, runD_ ρ c102l6 fun K => c102l6f k K k), (3, runD_ ρ c102l3 fun K => c102l3f k K k)]) (tj := [(14, runD_ ρ c102j14 (c102j14f k))]) (tb := []) rfl rfl rfl (all_nth 2 (by kernel_rfl) ⟨iter_case (by kernel_rfl) rfl (c102l6i1 k), iter_case (by kernel_rfl) rfl (c102l3i0 k), trivial⟩) (all_nth 1 (by kernel_rfl) ⟨join_case (by kernel_rfl) rfl (c102j14i0 k), trivial⟩) (fun p hp => by cases hp)
theorem c102_n (k : Nat) : ConD (X := UX) Try.prog 4 c102_a B0 c102_d (fun a b => cadastrelaw20_ParseLevels k a.1) := conD xok tok Try.func4 (by kernel_rfl) (g := c102_G k) (c := c102_c k) rfl (c102_k k) (fun _ => by kernel_rfl) fun a b => by kernel_rfl
noncomputable def c102_A (k : Nat) : AP UX Try.prog ρ 4 := apD Try.func4 (by kernel_rfl) c102_a B0 c102_d _ (c102_n k)
theorem cadastrelaw20_ParseLevels_con (k : Nat) (l0 : List ByteArray) (r : Bool) (h : cadastrelaw20_ParseLevels k l0 = some r) : Con (X := UX) Try.prog 4 [.pv (.typ (.ls l0))] [] (.pv (.bool r)) [] := c102_n k (l0, ()) () r h

end
end Go.Proofs.Ytepekanlplbciaa.Q
