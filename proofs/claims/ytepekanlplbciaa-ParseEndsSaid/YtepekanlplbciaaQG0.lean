/-
  What the program's functions answer: the printed functions' answers.
-/
import Derived.Test.YtepekanlplbciaaQU
import Derived.Test.YtepekanlplbciaaAxExt
import Derived.Test.YtepekanlplbciaaAxMap
namespace Go.Proofs.Ytepekanlplbciaa.Q
open Go Go.AX
section
variable {ρ : Type}

/-! internal/stringslite.HasPrefix -/
noncomputable def c1_a := Dc.cons ps.pv <| Dc.cons ps.pv <| A0
noncomputable def c1_d := one_ pb.pv
noncomputable def c1_G (k : Nat) : GP UX Try.prog ρ := gN
noncomputable def c1_c (k : Nat) : Cfg UX ρ := cfgOf UX ρ 18 [(0, [0, 1]), (1, [0, 1])] []
theorem c1_n (k : Nat) : ConD (X := UX) Try.prog 66 c1_a B0 c1_d (fun a b => stringslite_HasPrefix k a.1 a.2.1) := conD xok tok Try.func66 (by kernel_rfl) (g := c1_G k) (c := c1_c k) rfl (cok0 rfl rfl rfl) (fun _ => by kernel_rfl) fun a b => by kernel_rfl
noncomputable def c1_A (k : Nat) : AP UX Try.prog ρ 66 := apD Try.func66 (by kernel_rfl) c1_a B0 c1_d _ (c1_n k)


/-! strings.HasPrefix -/
noncomputable def c2_a := Dc.cons ps.pv <| Dc.cons ps.pv <| A0
noncomputable def c2_d := one_ pb.pv
noncomputable def c2_G (k : Nat) : GP UX Try.prog ρ := gC 66 (c1_A k) <| gN
noncomputable def c2_c (k : Nat) : Cfg UX ρ := cfgOf UX ρ 8 [(0, [0, 1]), (1, [0, 1])] []
theorem c2_n (k : Nat) : ConD (X := UX) Try.prog 39 c2_a B0 c2_d (fun a b => strings_HasPrefix k a.1 a.2.1) := conD xok tok Try.func39 (by kernel_rfl) (g := c2_G k) (c := c2_c k) rfl (cok0 rfl rfl rfl) (fun _ => by kernel_rfl) fun a b => by kernel_rfl
noncomputable def c2_A (k : Nat) : AP UX Try.prog ρ 39 := apD Try.func39 (by kernel_rfl) c2_a B0 c2_d _ (c2_n k)


/-! cadastre/lex.skip$1 -/
noncomputable def c3_a := Dc.cons pi_u8.pv <| A0
noncomputable def c3_d := one_ pb.pv
noncomputable def c3_G (k : Nat) : GP UX Try.prog ρ := gN
noncomputable def c3_c (k : Nat) : Cfg UX ρ := cfgOf UX ρ 17 [(0, [0]), (1, [0])] []
theorem c3_n (k : Nat) : ConD (X := UX) Try.prog 38 c3_a B0 c3_d (fun a b => lex_skip_1 k a.1) := conD xok tok Try.func38 (by kernel_rfl) (g := c3_G k) (c := c3_c k) rfl (cok0 rfl rfl rfl) (fun _ => by kernel_rfl) fun a b => by kernel_rfl
noncomputable def c3_A (k : Nat) : AP UX Try.prog ρ 38 := apD Try.func38 (by kernel_rfl) c3_a B0 c3_d _ (c3_n k)


/-! cadastre/lex.span -/
noncomputable def c4_a := Dc.cons ps.pv <| Dc.cons pi_i64.pv <| Dc.cons (Dc.fn 38 (V0) (V0)) <| A0
noncomputable def c4_d := one_ pi_i64.pv
noncomputable def c4_G (k : Nat) : GP UX Try.prog ρ := gC 38 (c3_A k) <| gN
noncomputable def c4l1 := Dc.st (Dc.at_ 0 ps.pv <| Dc.at_ 1 pi_i64.pv <| Dc.at_ 2 (Dc.fn 38 (V0) (V0)) <| E0) (H0)
noncomputable def c4y0 (K : Ex → St UU → Option ρ) (at1 : Int) : Option ρ := K (.exit 0) ⟨[(1, .pv (.int .i64 at1))], []⟩
noncomputable def c4l1f (k : Nat) (K : Ex → St UU → Option ρ) (n : Nat) (v : c4l1.T) : Option ρ := lex_span_fskip_1_l1 k (c4y0 K) n v.1.1 v.1.2.1
noncomputable def c4_c (k : Nat) : Cfg UX ρ := cfgOf UX ρ 21 [(0, [0, 1, 2]), (1, [0, 1, 2]), (2, [0, 1, 2]), (3, [1])] [] (loops := [(1, runD_ ρ c4l1 fun K => c4l1f k K k)]) (xe := [(1, [(0, [1], [])])])
noncomputable def c4_L : List Code := selI [1] (loopsOf (bodyOf Try.f37))
theorem c4l1i0 (k : Nat) : IterOK UX (c4_c (ρ := ρ) k) (c4_G k).1 (c4_L.getD 0 .skip) 1 (runD_ ρ c4l1 fun K => c4l1f k K k) := iterD (X := UX) (k := k) c4l1 (c4l1f k) (fun K rec v => lex_span_fskip_1_l1_b k (c4y0 K) (fun s0 at1 => rec ((s0, at1, ((), ()), ()), ())) v.1.1 v.1.2.1) (fun K n v => by kernel_rfl) (fun _ _ => rfl) fun _ _ _ => rfl
theorem c4_k (k : Nat) : COK (c4_c (ρ := ρ) k) (c4_G k).1 (bodyOf Try.f37) :=
  cok_of (tl := [(1, runD_ ρ c4l1 fun K => c4l1f k K k)]) (tj := []) (tb := []) rfl rfl rfl (all_nth 1 (by kernel_rfl) ⟨iter_case (by kernel_rfl) rfl (c4l1i0 k), trivial⟩) (nil_all (by kernel_rfl)) (fun p hp => by cases hp)
theorem c4_n (k : Nat) : ConD (X := UX) Try.prog 37 c4_a B0 c4_d (fun a b => lex_span_fskip_1 k a.1 a.2.1) := conD xok tok Try.func37 (by kernel_rfl) (g := c4_G k) (c := c4_c k) rfl (c4_k k) (fun _ => by kernel_rfl) fun a b => by kernel_rfl
noncomputable def c4_A (k : Nat) : AP UX Try.prog ρ 37 := apD Try.func37 (by kernel_rfl) c4_a B0 c4_d _ (c4_n k)


/-! cadastre/lex.skip$2 -/
noncomputable def c5_a := Dc.cons pi_u8.pv <| A0
noncomputable def c5_d := one_ pb.pv
noncomputable def c5_G (k : Nat) : GP UX Try.prog ρ := gN
noncomputable def c5_c (k : Nat) : Cfg UX ρ := cfgOf UX ρ 5 [(0, [0]), (1, [0])] []
theorem c5_n (k : Nat) : ConD (X := UX) Try.prog 40 c5_a B0 c5_d (fun a b => lex_skip_2 k a.1) := conD xok tok Try.func40 (by kernel_rfl) (g := c5_G k) (c := c5_c k) rfl (cok0 rfl rfl rfl) (fun _ => by kernel_rfl) fun a b => by kernel_rfl
noncomputable def c5_A (k : Nat) : AP UX Try.prog ρ 40 := apD Try.func40 (by kernel_rfl) c5_a B0 c5_d _ (c5_n k)


/-! cadastre/lex.span -/
noncomputable def c6_a := Dc.cons ps.pv <| Dc.cons pi_i64.pv <| Dc.cons (Dc.fn 40 (V0) (V0)) <| A0
noncomputable def c6_d := one_ pi_i64.pv
noncomputable def c6_G (k : Nat) : GP UX Try.prog ρ := gC 40 (c5_A k) <| gN
noncomputable def c6l1 := Dc.st (Dc.at_ 0 ps.pv <| Dc.at_ 1 pi_i64.pv <| Dc.at_ 2 (Dc.fn 40 (V0) (V0)) <| E0) (H0)
noncomputable def c6y0 (K : Ex → St UU → Option ρ) (at1 : Int) : Option ρ := K (.exit 0) ⟨[(1, .pv (.int .i64 at1))], []⟩
noncomputable def c6l1f (k : Nat) (K : Ex → St UU → Option ρ) (n : Nat) (v : c6l1.T) : Option ρ := lex_span_fskip_2_l1 k (c6y0 K) n v.1.1 v.1.2.1
noncomputable def c6_c (k : Nat) : Cfg UX ρ := cfgOf UX ρ 21 [(0, [0, 1, 2]), (1, [0, 1, 2]), (2, [0, 1, 2]), (3, [1])] [] (loops := [(1, runD_ ρ c6l1 fun K => c6l1f k K k)]) (xe := [(1, [(0, [1], [])])])
noncomputable def c6_L : List Code := selI [1] (loopsOf (bodyOf Try.f37))
theorem c6l1i0 (k : Nat) : IterOK UX (c6_c (ρ := ρ) k) (c6_G k).1 (c6_L.getD 0 .skip) 1 (runD_ ρ c6l1 fun K => c6l1f k K k) := iterD (X := UX) (k := k) c6l1 (c6l1f k) (fun K rec v => lex_span_fskip_2_l1_b k (c6y0 K) (fun s0 at1 => rec ((s0, at1, ((), ()), ()), ())) v.1.1 v.1.2.1) (fun K n v => by kernel_rfl) (fun _ _ => rfl) fun _ _ _ => rfl
theorem c6_k (k : Nat) : COK (c6_c (ρ := ρ) k) (c6_G k).1 (bodyOf Try.f37) :=
  cok_of (tl := [(1, runD_ ρ c6l1 fun K => c6l1f k K k)]) (tj := []) (tb := []) rfl rfl rfl (all_nth 1 (by kernel_rfl) ⟨iter_case (by kernel_rfl) rfl (c6l1i0 k), trivial⟩) (nil_all (by kernel_rfl)) (fun p hp => by cases hp)
theorem c6_n (k : Nat) : ConD (X := UX) Try.prog 37 c6_a B0 c6_d (fun a b => lex_span_fskip_2 k a.1 a.2.1) := conD xok tok Try.func37 (by kernel_rfl) (g := c6_G k) (c := c6_c k) rfl (c6_k k) (fun _ => by kernel_rfl) fun a b => by kernel_rfl
noncomputable def c6_A (k : Nat) : AP UX Try.prog ρ 37 := apD Try.func37 (by kernel_rfl) c6_a B0 c6_d _ (c6_n k)


/-! cadastre/lex.skip -/
noncomputable def c7_a := Dc.cons ps.pv <| Dc.cons pi_i64.pv <| A0
noncomputable def c7_d := one_ pi_i64.pv
noncomputable def c7_G (k : Nat) : GP UX Try.prog ρ := gC 37 (gS [0, 0, 40] (c4_A k) (c6_A k)) <| gC 39 (c2_A k) <| gN
noncomputable def c7j1 := Dc.st (Dc.at_ 0 ps.pv <| Dc.at_ 1 pi_i64.pv <| E0) (H0)
noncomputable def c7y0 (K : Ex → St UU → Option ρ) (s0 : ByteArray) (at1 : Int) : Option ρ := K (.goto 0) ⟨[(0, .pv (.str s0)), (1, .pv (.int .i64 at1))], []⟩
noncomputable def c7y1 (K : Ex → St UU → Option ρ) (t4 : Int) : Option ρ := K .ret ⟨[(4, .pv (.int .i64 t4))], []⟩
noncomputable def c7j1f (k : Nat) (K : Ex → St UU → Option ρ) (v : c7j1.T) : Option ρ := lex_skip_j1 k (c7y0 K) (c7y1 K) v.1.1 v.1.2.1
noncomputable def c7g1 := Dc.st (Dc.at_ 0 ps.pv <| Dc.at_ 1 pi_i64.pv <| E0) (H0)
noncomputable def c7g1f (k : Nat) (K : Ex → St UU → Option ρ) (n : Nat) (v : c7g1.T) : Option ρ := lex_skip_g0 k (c7y1 K) n v.1.1 v.1.2.1
noncomputable def c7_c (k : Nat) : Cfg UX ρ := cfgOf UX ρ 16 [(0, [0, 1]), (1, [0, 1]), (2, [0, 1]), (3, [0, 1]), (4, [1])] [] (joins := [(1, runD_ ρ c7j1 (c7j1f k))]) (labels := [(0, runD_ ρ c7g1 fun K => c7g1f k K k)]) (labelR := [(0, 1)]) (xr := [(1, [4], [])]) (xg := [(1, [(0, [0, 1], [])])])
noncomputable def c7_J : List Code := selI [1] (joinsOf (bodyOf Try.f21))
noncomputable def c7_S : List Code := scopesOf (bodyOf Try.f21)
theorem c7j1i0 (k : Nat) : JoinOK UX (c7_c (ρ := ρ) k) (c7_G k).1 (c7_J.getD 0 .skip) 1 (runD_ ρ c7j1 (c7j1f k)) := joinD (X := UX) c7j1 (c7j1f k) fun K v => by kernel_rfl
theorem c7g1i0 (k : Nat) : LabOK UX (c7_c (ρ := ρ) k) (c7_G k).1 (c7_S.getD 0 .skip) 0 (runD_ ρ c7g1 fun K => c7g1f k K k) := labD (X := UX) (k := k) c7g1 (c7g1f k) (fun K rec v => lex_skip_g0_b k (c7y1 K) (fun s0 at1 => rec ((s0, at1, ()), ())) v.1.1 v.1.2.1) (fun K n v => by kernel_rfl) (fun _ _ => rfl) fun _ _ _ => rfl
theorem c7_k (k : Nat) : COK (c7_c (ρ := ρ) k) (c7_G k).1 (bodyOf Try.f21) :=
  cok_of (tl := []) (tj := [(1, runD_ ρ c7j1 (c7j1f k))]) (tb := [(0, runD_ ρ c7g1 fun K => c7g1f k K k)]) rfl rfl rfl (nil_all (by kernel_rfl)) (all_nth 1 (by kernel_rfl) ⟨join_case (by kernel_rfl) rfl (c7j1i0 k), trivial⟩) (fun p hp => by
    simp only [List.mem_cons, List.not_mem_nil, or_false] at hp
    subst hp
    · exact all_nth 1 (by kernel_rfl) ⟨c7g1i0 k, trivial⟩)
theorem c7_n (k : Nat) : ConD (X := UX) Try.prog 21 c7_a B0 c7_d (fun a b => lex_skip k a.1 a.2.1) := conD xok tok Try.func21 (by kernel_rfl) (g := c7_G k) (c := c7_c k) rfl (c7_k k) (fun _ => by kernel_rfl) fun a b => by kernel_rfl
noncomputable def c7_A (k : Nat) : AP UX Try.prog ρ 21 := apD Try.func21 (by kernel_rfl) c7_a B0 c7_d _ (c7_n k)


/-! cadastre/lex.letter -/
noncomputable def c8_a := Dc.cons pi_u8.pv <| A0
noncomputable def c8_d := one_ pb.pv
noncomputable def c8_G (k : Nat) : GP UX Try.prog ρ := gN
noncomputable def c8_c (k : Nat) : Cfg UX ρ := cfgOf UX ρ 21 [(0, [0]), (1, [0])] []
theorem c8_n (k : Nat) : ConD (X := UX) Try.prog 41 c8_a B0 c8_d (fun a b => lex_letter k a.1) := conD xok tok Try.func41 (by kernel_rfl) (g := c8_G k) (c := c8_c k) rfl (cok0 rfl rfl rfl) (fun _ => by kernel_rfl) fun a b => by kernel_rfl
noncomputable def c8_A (k : Nat) : AP UX Try.prog ρ 41 := apD Try.func41 (by kernel_rfl) c8_a B0 c8_d _ (c8_n k)


/-! cadastre/lex.digit -/
noncomputable def c9_a := Dc.cons pi_u8.pv <| A0
noncomputable def c9_d := one_ pb.pv
noncomputable def c9_G (k : Nat) : GP UX Try.prog ρ := gN
noncomputable def c9_c (k : Nat) : Cfg UX ρ := cfgOf UX ρ 9 [(0, [0]), (1, [0])] []
theorem c9_n (k : Nat) : ConD (X := UX) Try.prog 42 c9_a B0 c9_d (fun a b => lex_digit k a.1) := conD xok tok Try.func42 (by kernel_rfl) (g := c9_G k) (c := c9_c k) rfl (cok0 rfl rfl rfl) (fun _ => by kernel_rfl) fun a b => by kernel_rfl
noncomputable def c9_A (k : Nat) : AP UX Try.prog ρ 42 := apD Try.func42 (by kernel_rfl) c9_a B0 c9_d _ (c9_n k)


/-! internal/stringslite.IndexByte -/
noncomputable def stringslite_IndexByte_code : Code := match Try.f75.body with | some c => c | none => .skip
theorem stringslite_IndexByte_body : Try.f75.body = some stringslite_IndexByte_code := by kernel_rfl
noncomputable def stringslite_IndexByte_enc (r : Int) : AV UU := .pv (.int .i64 r)
open Go.RowKit in
set_option maxRecDepth 100000 in
set_option maxHeartbeats 1000000 in
theorem stringslite_IndexByte_con (k : Nat) (s0 : ByteArray) (c1 : Int) (r : Int) (h : stringslite_IndexByte k s0 c1 = some r) : Con (X := UX) Try.prog 75 [.pv (.str s0), .pv (.int .u8 c1)] [] (stringslite_IndexByte_enc r) [] := by
  unfold stringslite_IndexByte at h
  obtain rfl := Option.some.inj h
  exact con_strByte fun w => by
    go_enter Try.func75, Try.ntmps75
    go_wp2
    rw [run_callFunc_extern Try.func80 (by kernel_rfl) (by kernel_rfl) (by kernel_rfl) (e := Extern.BytealgIndexByte.indexByte) (by kernel_rfl), Lib.run_indexByteString]
    simp only [Result.andThen]
    rw [Oper.upon_value]
    go_wp2
    go_ret
    exact ⟨rfl, rfl⟩
noncomputable def c10_a := Dc.cons ps.pv <| Dc.cons pi_u8.pv <| A0
noncomputable def c10_d := one_ pi_i64.pv
theorem c10_n (k : Nat) : ConD (X := UX) Try.prog 75 c10_a B0 c10_d (fun a b => stringslite_IndexByte k a.1 a.2.1) := fun a b r h => stringslite_IndexByte_con k a.1 a.2.1 r h
noncomputable def c10_A (k : Nat) : AP UX Try.prog ρ 75 := apD Try.func75 (by kernel_rfl) c10_a B0 c10_d _ (c10_n k)


/-! strings.IndexByte -/
noncomputable def c11_a := Dc.cons ps.pv <| Dc.cons pi_u8.pv <| A0
noncomputable def c11_d := one_ pi_i64.pv
noncomputable def c11_G (k : Nat) : GP UX Try.prog ρ := gC 75 (c10_A k) <| gN
noncomputable def c11_c (k : Nat) : Cfg UX ρ := cfgOf UX ρ 8 [(0, [0, 1]), (1, [0, 1])] []
theorem c11_n (k : Nat) : ConD (X := UX) Try.prog 67 c11_a B0 c11_d (fun a b => strings_IndexByte k a.1 a.2.1) := conD xok tok Try.func67 (by kernel_rfl) (g := c11_G k) (c := c11_c k) rfl (cok0 rfl rfl rfl) (fun _ => by kernel_rfl) fun a b => by kernel_rfl
noncomputable def c11_A (k : Nat) : AP UX Try.prog ρ 67 := apD Try.func67 (by kernel_rfl) c11_a B0 c11_d _ (c11_n k)


/-! cadastre/lex.mark -/
noncomputable def c12_a := Dc.cons ps.pv <| A0
noncomputable def c12_d := one_ pi_i64.pv
noncomputable def c12_G (k : Nat) : GP UX Try.prog ρ := gC 67 (c11_A k) <| gN
noncomputable def c12j9 := Dc.st (Dc.at_ 0 ps.pv <| E0) (H0)
noncomputable def c12y0 (K : Ex → St UU → Option ρ) (t2 : Int) : Option ρ := K .ret ⟨[(2, .pv (.int .i64 t2))], []⟩
noncomputable def c12j9f (k : Nat) (K : Ex → St UU → Option ρ) (v : c12j9.T) : Option ρ := lex_mark_j9 k (c12y0 K) v.1.1
noncomputable def c12_c (k : Nat) : Cfg UX ρ := cfgOf UX ρ 18 [(0, [0]), (1, [0]), (2, [0]), (3, [0, 7]), (4, [0, 7]), (5, [0, 7]), (6, [0, 7]), (7, [0, 7]), (9, [0])] [] (joins := [(9, runD_ ρ c12j9 (c12j9f k))]) (xr := [(9, [2], [])])
noncomputable def c12_J : List Code := selI [9] (joinsOf (bodyOf Try.f43))
theorem c12j9i0 (k : Nat) : JoinOK UX (c12_c (ρ := ρ) k) (c12_G k).1 (c12_J.getD 0 .skip) 9 (runD_ ρ c12j9 (c12j9f k)) := joinD (X := UX) c12j9 (c12j9f k) fun K v => by kernel_rfl
theorem c12_k (k : Nat) : COK (c12_c (ρ := ρ) k) (c12_G k).1 (bodyOf Try.f43) :=
  cok_of (tl := []) (tj := [(9, runD_ ρ c12j9 (c12j9f k))]) (tb := []) rfl rfl rfl (nil_all (by kernel_rfl)) (all_nth 1 (by kernel_rfl) ⟨join_case (by kernel_rfl) rfl (c12j9i0 k), trivial⟩) (fun p hp => by cases hp)
theorem c12_n (k : Nat) : ConD (X := UX) Try.prog 43 c12_a B0 c12_d (fun a b => lex_mark k a.1) := conD xok tok Try.func43 (by kernel_rfl) (g := c12_G k) (c := c12_c k) rfl (c12_k k) (fun _ => by kernel_rfl) fun a b => by kernel_rfl
noncomputable def c12_A (k : Nat) : AP UX Try.prog ρ 43 := apD Try.func43 (by kernel_rfl) c12_a B0 c12_d _ (c12_n k)


/-! cadastre/lex.nibble -/
noncomputable def c13_a := Dc.cons pi_u8.pv <| A0
noncomputable def c13_d := one_ (Dc.tup (Dc.cons pi_u8 <| Dc.last pb)).pv
noncomputable def c13_G (k : Nat) : GP UX Try.prog ρ := gC 42 (c9_A k) <| gN
noncomputable def c13j5 := Dc.st (Dc.at_ 0 pi_u8.pv <| E0) (H0)
noncomputable def c13y0 (K : Ex → St UU → Option ρ) (t2 : Int) (t3 : Bool) : Option ρ := K .ret ⟨[(2, .pv (.int .u8 t2)), (3, .pv (.bool t3))], []⟩
noncomputable def c13y1 (K : Ex → St UU → Option ρ) : Option ρ := K .nxt ⟨[], []⟩
noncomputable def c13j5f (k : Nat) (K : Ex → St UU → Option ρ) (v : c13j5.T) : Option ρ := lex_nibble_j5 k (c13y0 K) (c13y1 K) v.1.1
noncomputable def c13_c (k : Nat) : Cfg UX ρ := cfgOf UX ρ 29 [(0, [0]), (1, [0]), (2, [0]), (3, [0]), (4, [0]), (5, [0]), (6, [0])] [] (joins := [(5, runD_ ρ c13j5 (c13j5f k))]) (xn := [(5, [], [])]) (xr := [(5, [2, 3], [])])
noncomputable def c13_J : List Code := selI [5] (joinsOf (bodyOf Try.f68))
theorem c13j5i0 (k : Nat) : JoinOK UX (c13_c (ρ := ρ) k) (c13_G k).1 (c13_J.getD 0 .skip) 5 (runD_ ρ c13j5 (c13j5f k)) := joinD (X := UX) c13j5 (c13j5f k) fun K v => by kernel_rfl
theorem c13_k (k : Nat) : COK (c13_c (ρ := ρ) k) (c13_G k).1 (bodyOf Try.f68) :=
  cok_of (tl := []) (tj := [(5, runD_ ρ c13j5 (c13j5f k))]) (tb := []) rfl rfl rfl (nil_all (by kernel_rfl)) (all_nth 1 (by kernel_rfl) ⟨join_case (by kernel_rfl) rfl (c13j5i0 k), trivial⟩) (fun p hp => by cases hp)
theorem c13_n (k : Nat) : ConD (X := UX) Try.prog 68 c13_a B0 c13_d (fun a b => lex_nibble k a.1) := conD xok tok Try.func68 (by kernel_rfl) (g := c13_G k) (c := c13_c k) rfl (c13_k k) (fun _ => by kernel_rfl) fun a b => by kernel_rfl
noncomputable def c13_A (k : Nat) : AP UX Try.prog ρ 68 := apD Try.func68 (by kernel_rfl) c13_a B0 c13_d _ (c13_n k)


/-! cadastre/lex.blob -/
noncomputable def c14_a := Dc.cons ps.pv <| Dc.cons pi_i64.pv <| A0
noncomputable def c14_d := one_ (Dc.tup (Dc.cons ps <| Dc.cons pi_i64 <| Dc.last pb)).pv
noncomputable def c14_G (k : Nat) : GP UX Try.prog ρ := gC 67 (c11_A k) <| gC 68 (c13_A k) <| gN
noncomputable def c14l6 := Dc.st (Dc.at_ 0 ps.pv <| Dc.at_ 1 pi_i64.pv <| Dc.at_ 7 pi_i64.pv <| Dc.at_ 8 o_li_u8 <| Dc.at_ 9 pi_i64.pv <| E0) (H0)
noncomputable def c14y0 (K : Ex → St UU → Option ρ) (text4 : ByteArray) (end5 : Int) (ok6 : Bool) : Option ρ := K .ret ⟨[(4, .pv (.str text4)), (5, .pv (.int .i64 end5)), (6, .pv (.bool ok6))], []⟩
noncomputable def c14y1 (K : Ex → St UU → Option ρ) (at1 : Int) (n7 : Int) (b8 : List Int) : Option ρ := K (.exit 0) ⟨[(1, .pv (.int .i64 at1)), (7, .pv (.int .i64 n7)), (8, .own (.li_u8 b8))], []⟩
noncomputable def c14l6f (k : Nat) (K : Ex → St UU → Option ρ) (n : Nat) (v : c14l6.T) : Option ρ := lex_blob_l6 k (c14y0 K) (c14y1 K) n v.1.1 v.1.2.1 v.1.2.2.1 v.1.2.2.2.1 v.1.2.2.2.2.1
noncomputable def c14j4 := Dc.st (Dc.at_ 0 ps.pv <| Dc.at_ 1 pi_i64.pv <| Dc.at_ 7 pi_i64.pv <| E0) (H0)
noncomputable def c14j4f (k : Nat) (K : Ex → St UU → Option ρ) (v : c14j4.T) : Option ρ := lex_blob_j4 k (c14y0 K) v.1.1 v.1.2.1 v.1.2.2.1
noncomputable def c14_c (k : Nat) : Cfg UX ρ := cfgOf UX ρ 67 [(0, [0, 1]), (1, [0, 1]), (2, [0, 1, 7]), (4, [0, 1, 7]), (5, [0, 1, 7, 8]), (6, [0, 1, 7, 8, 9]), (7, [0, 1, 7, 8, 9]), (8, [0, 1, 7, 8, 9]), (9, [0, 1, 7, 8, 9, 10, 11]), (10, [0, 1, 7, 8, 9, 10, 11, 12, 13]), (12, [0, 1, 7, 8, 9, 10, 12]), (13, [1, 7, 8])] [] (tk := [(1000000, [8])]) (loops := [(6, runD_ ρ c14l6 fun K => c14l6f k K k)]) (joins := [(4, runD_ ρ c14j4 (c14j4f k))]) (xr := [(6, [4, 5, 6], []), (4, [4, 5, 6], [])]) (xe := [(6, [(0, [1, 7, 8], [])])])
noncomputable def c14_L : List Code := selI [6] (loopsOf (bodyOf Try.f44))
noncomputable def c14_J : List Code := selI [4] (joinsOf (bodyOf Try.f44))
theorem c14l6i0 (k : Nat) : IterOK UX (c14_c (ρ := ρ) k) (c14_G k).1 (c14_L.getD 0 .skip) 6 (runD_ ρ c14l6 fun K => c14l6f k K k) := iterD (X := UX) (k := k) c14l6 (c14l6f k) (fun K rec v => lex_blob_l6_b k (c14y0 K) (c14y1 K) (fun s0 at1 n7 b8 k9 => rec ((s0, at1, n7, b8, k9, ()), ())) v.1.1 v.1.2.1 v.1.2.2.1 v.1.2.2.2.1 v.1.2.2.2.2.1) (fun K n v => by kernel_rfl) (fun _ _ => rfl) fun _ _ _ => rfl
theorem c14j4i0 (k : Nat) : JoinOK UX (c14_c (ρ := ρ) k) (c14_G k).1 (c14_J.getD 0 .skip) 4 (runD_ ρ c14j4 (c14j4f k)) := joinD (X := UX) c14j4 (c14j4f k) fun K v => by kernel_rfl
theorem c14_k (k : Nat) : COK (c14_c (ρ := ρ) k) (c14_G k).1 (bodyOf Try.f44) :=
  cok_of (tl := [(6, runD_ ρ c14l6 fun K => c14l6f k K k)]) (tj := [(4, runD_ ρ c14j4 (c14j4f k))]) (tb := []) rfl rfl rfl (all_nth 1 (by kernel_rfl) ⟨iter_case (by kernel_rfl) rfl (c14l6i0 k), trivial⟩) (all_nth 1 (by kernel_rfl) ⟨join_case (by kernel_rfl) rfl (c14j4i0 k), trivial⟩) (fun p hp => by cases hp)
theorem c14_n (k : Nat) : ConD (X := UX) Try.prog 44 c14_a B0 c14_d (fun a b => lex_blob k a.1 a.2.1) := conD xok tok Try.func44 (by kernel_rfl) (g := c14_G k) (c := c14_c k) rfl (c14_k k) (fun _ => by kernel_rfl) fun a b => by kernel_rfl
noncomputable def c14_A (k : Nat) : AP UX Try.prog ρ 44 := apD Try.func44 (by kernel_rfl) c14_a B0 c14_d _ (c14_n k)


/-! cadastre/lex.Small -/
noncomputable def c15_a := Dc.cons ps.pv <| A0
noncomputable def c15_d := one_ ps.pv
noncomputable def c15_G (k : Nat) : GP UX Try.prog ρ := gN
noncomputable def c15l3 := Dc.st (Dc.at_ 3 o_li_u8 <| Dc.at0 8 (Dc.l 3) <| Dc.at_ 9 pi_i64.pv <| Dc.at_ 10 pi_i64.pv <| E0) (H0)
noncomputable def c15y0 (K : Ex → St UU → Option ρ) (b3 : List Int) : Option ρ := K (.exit 0) ⟨[(3, .own (.li_u8 b3))], []⟩
noncomputable def c15l3f (k : Nat) (K : Ex → St UU → Option ρ) (n : Nat) (v : c15l3.T) : Option ρ := lex_Small_l3 k (c15y0 K) n v.1.1 v.1.2.1 v.1.2.2.1
noncomputable def c15_c (k : Nat) : Cfg UX ρ := cfgOf UX ρ 30 [(0, [0]), (1, [0]), (2, [3]), (3, [3, 8, 9, 10]), (4, [3, 8, 9, 10]), (5, [3, 4, 5, 8, 9, 10]), (6, [3, 4, 5, 8, 9, 10]), (7, [3, 8, 9, 10]), (8, [3])] [] (loops := [(3, runD_ ρ c15l3 fun K => c15l3f k K k)]) (xe := [(3, [(0, [3], [])])])
noncomputable def c15_L : List Code := selI [3] (loopsOf (bodyOf Try.f46))
theorem c15l3i0 (k : Nat) : IterOK UX (c15_c (ρ := ρ) k) (c15_G k).1 (c15_L.getD 0 .skip) 3 (runD_ ρ c15l3 fun K => c15l3f k K k) := iterD (X := UX) (k := k) c15l3 (c15l3f k) (fun K rec v => lex_Small_l3_b k (c15y0 K) (fun b3 t9 t10 => rec ((b3, t9, t10, ()), ())) v.1.1 v.1.2.1 v.1.2.2.1) (fun K n v => by kernel_rfl) (fun _ _ => rfl) fun _ _ _ => rfl
theorem c15_k (k : Nat) : COK (c15_c (ρ := ρ) k) (c15_G k).1 (bodyOf Try.f46) :=
  cok_of (tl := [(3, runD_ ρ c15l3 fun K => c15l3f k K k)]) (tj := []) (tb := []) rfl rfl rfl (all_nth 1 (by kernel_rfl) ⟨iter_case (by kernel_rfl) rfl (c15l3i0 k), trivial⟩) (nil_all (by kernel_rfl)) (fun p hp => by cases hp)
theorem c15_n (k : Nat) : ConD (X := UX) Try.prog 46 c15_a B0 c15_d (fun a b => lex_Small k a.1) := conD xok tok Try.func46 (by kernel_rfl) (g := c15_G k) (c := c15_c k) rfl (c15_k k) (fun _ => by kernel_rfl) fun a b => by kernel_rfl
noncomputable def c15_A (k : Nat) : AP UX Try.prog ρ 46 := apD Try.func46 (by kernel_rfl) c15_a B0 c15_d _ (c15_n k)


/-! cadastre/lex.integer -/
noncomputable def c16_a := Dc.cons ps.pv <| A0
noncomputable def c16_d := one_ (Dc.tup (Dc.cons pi_i64 <| Dc.last pb)).pv
noncomputable def c16_G (k : Nat) : GP UX Try.prog ρ := gN
noncomputable def c16l2 := Dc.st (Dc.at_ 0 ps.pv <| Dc.at_ 2 pi_i64.pv <| Dc.at_ 7 pi_i64.pv <| Dc.at_ 8 pi_i64.pv <| E0) (H0)
noncomputable def c16y0 (K : Ex → St UU → Option ρ) (n2 : Int) (ok3 : Bool) : Option ρ := K .ret ⟨[(2, .pv (.int .i64 n2)), (3, .pv (.bool ok3))], []⟩
noncomputable def c16y1 (K : Ex → St UU → Option ρ) (n2 : Int) : Option ρ := K (.exit 0) ⟨[(2, .pv (.int .i64 n2))], []⟩
noncomputable def c16l2f (k : Nat) (K : Ex → St UU → Option ρ) (n : Nat) (v : c16l2.T) : Option ρ := lex_integer_l2 k (c16y0 K) (c16y1 K) n v.1.1 v.1.2.1 v.1.2.2.1 v.1.2.2.2.1
noncomputable def c16_c (k : Nat) : Cfg UX ρ := cfgOf UX ρ 27 [(0, [0]), (1, [0, 2]), (2, [0, 2, 7, 8]), (3, [0, 2, 7, 8]), (4, [0, 2, 4, 7, 8]), (5, [0, 2, 5, 7, 8]), (7, [0, 2, 5, 7, 8]), (8, [0, 2, 7, 8]), (9, [2])] [] (loops := [(2, runD_ ρ c16l2 fun K => c16l2f k K k)]) (xr := [(2, [2, 3], [])]) (xe := [(2, [(0, [2], [])])])
noncomputable def c16_L : List Code := selI [2] (loopsOf (bodyOf Try.f47))
theorem c16l2i0 (k : Nat) : IterOK UX (c16_c (ρ := ρ) k) (c16_G k).1 (c16_L.getD 0 .skip) 2 (runD_ ρ c16l2 fun K => c16l2f k K k) := iterD (X := UX) (k := k) c16l2 (c16l2f k) (fun K rec v => lex_integer_l2_b k (c16y0 K) (c16y1 K) (fun s0 n2 t7 t8 => rec ((s0, n2, t7, t8, ()), ())) v.1.1 v.1.2.1 v.1.2.2.1 v.1.2.2.2.1) (fun K n v => by kernel_rfl) (fun _ _ => rfl) fun _ _ _ => rfl
theorem c16_k (k : Nat) : COK (c16_c (ρ := ρ) k) (c16_G k).1 (bodyOf Try.f47) :=
  cok_of (tl := [(2, runD_ ρ c16l2 fun K => c16l2f k K k)]) (tj := []) (tb := []) rfl rfl rfl (all_nth 1 (by kernel_rfl) ⟨iter_case (by kernel_rfl) rfl (c16l2i0 k), trivial⟩) (nil_all (by kernel_rfl)) (fun p hp => by cases hp)
theorem c16_n (k : Nat) : ConD (X := UX) Try.prog 47 c16_a B0 c16_d (fun a b => lex_integer k a.1) := conD xok tok Try.func47 (by kernel_rfl) (g := c16_G k) (c := c16_c k) rfl (c16_k k) (fun _ => by kernel_rfl) fun a b => by kernel_rfl
noncomputable def c16_A (k : Nat) : AP UX Try.prog ρ 47 := apD Try.func47 (by kernel_rfl) c16_a B0 c16_d _ (c16_n k)


/-! cadastre/lex.quoted -/
noncomputable def c17_a := Dc.cons ps.pv <| Dc.cons pi_i64.pv <| A0
noncomputable def c17_d := one_ (Dc.tup (Dc.cons ps <| Dc.cons pi_i64 <| Dc.last pb)).pv
noncomputable def c17_G (k : Nat) : GP UX Try.prog ρ := gN
noncomputable def c17j2 := Dc.st (Dc.at_ 0 ps.pv <| Dc.at_ 1 pi_i64.pv <| Dc.at_ 7 o_li_u8 <| E0) (H0)
noncomputable def c17y0 (K : Ex → St UU → Option ρ) (text4 : ByteArray) (end5 : Int) (ok6 : Bool) : Option ρ := K .ret ⟨[(4, .pv (.str text4)), (5, .pv (.int .i64 end5)), (6, .pv (.bool ok6))], []⟩
noncomputable def c17y1 (K : Ex → St UU → Option ρ) (s0 : ByteArray) (at1 : Int) (b7 : List Int) : Option ρ := K (.goto 0) ⟨[(0, .pv (.str s0)), (1, .pv (.int .i64 at1)), (7, .own (.li_u8 b7))], []⟩
noncomputable def c17j2f (k : Nat) (K : Ex → St UU → Option ρ) (v : c17j2.T) : Option ρ := lex_quoted_j2 k (c17y0 K) (c17y1 K) v.1.1 v.1.2.1 v.1.2.2.1
noncomputable def c17g2 := Dc.st (Dc.at_ 0 ps.pv <| Dc.at_ 1 pi_i64.pv <| Dc.at_ 7 o_li_u8 <| E0) (H0)
noncomputable def c17g2f (k : Nat) (K : Ex → St UU → Option ρ) (n : Nat) (v : c17g2.T) : Option ρ := lex_quoted_g0 k (c17y0 K) n v.1.1 v.1.2.1 v.1.2.2.1
noncomputable def c17_c (k : Nat) : Cfg UX ρ := cfgOf UX ρ 45 [(0, [0, 1]), (1, [0, 1]), (2, [0, 1, 7]), (4, [0, 1, 7]), (5, [0, 1, 7]), (6, [0, 1, 7]), (7, [0, 1, 7]), (8, [0, 1, 7]), (9, [0, 1, 7]), (10, [1, 7])] [] (tk := [(1000000, [7])]) (joins := [(2, runD_ ρ c17j2 (c17j2f k))]) (labels := [(0, runD_ ρ c17g2 fun K => c17g2f k K k)]) (labelR := [(0, 2)]) (xr := [(2, [4, 5, 6], [])]) (xg := [(2, [(0, [0, 1, 7], [])])])
noncomputable def c17_J : List Code := selI [2] (joinsOf (bodyOf Try.f48))
noncomputable def c17_S : List Code := scopesOf (bodyOf Try.f48)
theorem c17j2i0 (k : Nat) : JoinOK UX (c17_c (ρ := ρ) k) (c17_G k).1 (c17_J.getD 0 .skip) 2 (runD_ ρ c17j2 (c17j2f k)) := joinD (X := UX) c17j2 (c17j2f k) fun K v => by kernel_rfl
theorem c17g2i0 (k : Nat) : LabOK UX (c17_c (ρ := ρ) k) (c17_G k).1 (c17_S.getD 0 .skip) 0 (runD_ ρ c17g2 fun K => c17g2f k K k) := labD (X := UX) (k := k) c17g2 (c17g2f k) (fun K rec v => lex_quoted_g0_b k (c17y0 K) (fun s0 at1 b7 => rec ((s0, at1, b7, ()), ())) v.1.1 v.1.2.1 v.1.2.2.1) (fun K n v => by kernel_rfl) (fun _ _ => rfl) fun _ _ _ => rfl
theorem c17_k (k : Nat) : COK (c17_c (ρ := ρ) k) (c17_G k).1 (bodyOf Try.f48) :=
  cok_of (tl := []) (tj := [(2, runD_ ρ c17j2 (c17j2f k))]) (tb := [(0, runD_ ρ c17g2 fun K => c17g2f k K k)]) rfl rfl rfl (nil_all (by kernel_rfl)) (all_nth 1 (by kernel_rfl) ⟨join_case (by kernel_rfl) rfl (c17j2i0 k), trivial⟩) (fun p hp => by
    simp only [List.mem_cons, List.not_mem_nil, or_false] at hp
    subst hp
    · exact all_nth 1 (by kernel_rfl) ⟨c17g2i0 k, trivial⟩)
theorem c17_n (k : Nat) : ConD (X := UX) Try.prog 48 c17_a B0 c17_d (fun a b => lex_quoted k a.1 a.2.1) := conD xok tok Try.func48 (by kernel_rfl) (g := c17_G k) (c := c17_c k) rfl (c17_k k) (fun _ => by kernel_rfl) fun a b => by kernel_rfl
noncomputable def c17_A (k : Nat) : AP UX Try.prog ρ 48 := apD Try.func48 (by kernel_rfl) c17_a B0 c17_d _ (c17_n k)


/-! cadastre/lex.token$1 -/
noncomputable def c18_a := Dc.cons pi_u8.pv <| A0
noncomputable def c18_d := one_ pb.pv
noncomputable def c18_G (k : Nat) : GP UX Try.prog ρ := gC 41 (c8_A k) <| gC 42 (c9_A k) <| gN
noncomputable def c18_c (k : Nat) : Cfg UX ρ := cfgOf UX ρ 9 [(0, [0]), (1, [0])] []
theorem c18_n (k : Nat) : ConD (X := UX) Try.prog 45 c18_a B0 c18_d (fun a b => lex_token_1 k a.1) := conD xok tok Try.func45 (by kernel_rfl) (g := c18_G k) (c := c18_c k) rfl (cok0 rfl rfl rfl) (fun _ => by kernel_rfl) fun a b => by kernel_rfl
noncomputable def c18_A (k : Nat) : AP UX Try.prog ρ 45 := apD Try.func45 (by kernel_rfl) c18_a B0 c18_d _ (c18_n k)


/-! cadastre/lex.span -/
noncomputable def c19_a := Dc.cons ps.pv <| Dc.cons pi_i64.pv <| Dc.cons (Dc.fn 45 (V0) (V0)) <| A0
noncomputable def c19_d := one_ pi_i64.pv
noncomputable def c19_G (k : Nat) : GP UX Try.prog ρ := gC 45 (c18_A k) <| gN
noncomputable def c19l1 := Dc.st (Dc.at_ 0 ps.pv <| Dc.at_ 1 pi_i64.pv <| Dc.at_ 2 (Dc.fn 45 (V0) (V0)) <| E0) (H0)
noncomputable def c19y0 (K : Ex → St UU → Option ρ) (at1 : Int) : Option ρ := K (.exit 0) ⟨[(1, .pv (.int .i64 at1))], []⟩
noncomputable def c19l1f (k : Nat) (K : Ex → St UU → Option ρ) (n : Nat) (v : c19l1.T) : Option ρ := lex_span_ftoken_1_l1 k (c19y0 K) n v.1.1 v.1.2.1
noncomputable def c19_c (k : Nat) : Cfg UX ρ := cfgOf UX ρ 21 [(0, [0, 1, 2]), (1, [0, 1, 2]), (2, [0, 1, 2]), (3, [1])] [] (loops := [(1, runD_ ρ c19l1 fun K => c19l1f k K k)]) (xe := [(1, [(0, [1], [])])])
noncomputable def c19_L : List Code := selI [1] (loopsOf (bodyOf Try.f37))
theorem c19l1i0 (k : Nat) : IterOK UX (c19_c (ρ := ρ) k) (c19_G k).1 (c19_L.getD 0 .skip) 1 (runD_ ρ c19l1 fun K => c19l1f k K k) := iterD (X := UX) (k := k) c19l1 (c19l1f k) (fun K rec v => lex_span_ftoken_1_l1_b k (c19y0 K) (fun s0 at1 => rec ((s0, at1, ((), ()), ()), ())) v.1.1 v.1.2.1) (fun K n v => by kernel_rfl) (fun _ _ => rfl) fun _ _ _ => rfl
theorem c19_k (k : Nat) : COK (c19_c (ρ := ρ) k) (c19_G k).1 (bodyOf Try.f37) :=
  cok_of (tl := [(1, runD_ ρ c19l1 fun K => c19l1f k K k)]) (tj := []) (tb := []) rfl rfl rfl (all_nth 1 (by kernel_rfl) ⟨iter_case (by kernel_rfl) rfl (c19l1i0 k), trivial⟩) (nil_all (by kernel_rfl)) (fun p hp => by cases hp)
theorem c19_n (k : Nat) : ConD (X := UX) Try.prog 37 c19_a B0 c19_d (fun a b => lex_span_ftoken_1 k a.1 a.2.1) := conD xok tok Try.func37 (by kernel_rfl) (g := c19_G k) (c := c19_c k) rfl (c19_k k) (fun _ => by kernel_rfl) fun a b => by kernel_rfl
noncomputable def c19_A (k : Nat) : AP UX Try.prog ρ 37 := apD Try.func37 (by kernel_rfl) c19_a B0 c19_d _ (c19_n k)


/-! cadastre/lex.span -/
noncomputable def c20_a := Dc.cons ps.pv <| Dc.cons pi_i64.pv <| Dc.cons (Dc.fn 42 (V0) (V0)) <| A0
noncomputable def c20_d := one_ pi_i64.pv
noncomputable def c20_G (k : Nat) : GP UX Try.prog ρ := gC 42 (c9_A k) <| gN
noncomputable def c20l1 := Dc.st (Dc.at_ 0 ps.pv <| Dc.at_ 1 pi_i64.pv <| Dc.at_ 2 (Dc.fn 42 (V0) (V0)) <| E0) (H0)
noncomputable def c20y0 (K : Ex → St UU → Option ρ) (at1 : Int) : Option ρ := K (.exit 0) ⟨[(1, .pv (.int .i64 at1))], []⟩
noncomputable def c20l1f (k : Nat) (K : Ex → St UU → Option ρ) (n : Nat) (v : c20l1.T) : Option ρ := lex_span_fdigit_l1 k (c20y0 K) n v.1.1 v.1.2.1
noncomputable def c20_c (k : Nat) : Cfg UX ρ := cfgOf UX ρ 21 [(0, [0, 1, 2]), (1, [0, 1, 2]), (2, [0, 1, 2]), (3, [1])] [] (loops := [(1, runD_ ρ c20l1 fun K => c20l1f k K k)]) (xe := [(1, [(0, [1], [])])])
noncomputable def c20_L : List Code := selI [1] (loopsOf (bodyOf Try.f37))
theorem c20l1i0 (k : Nat) : IterOK UX (c20_c (ρ := ρ) k) (c20_G k).1 (c20_L.getD 0 .skip) 1 (runD_ ρ c20l1 fun K => c20l1f k K k) := iterD (X := UX) (k := k) c20l1 (c20l1f k) (fun K rec v => lex_span_fdigit_l1_b k (c20y0 K) (fun s0 at1 => rec ((s0, at1, ((), ()), ()), ())) v.1.1 v.1.2.1) (fun K n v => by kernel_rfl) (fun _ _ => rfl) fun _ _ _ => rfl
theorem c20_k (k : Nat) : COK (c20_c (ρ := ρ) k) (c20_G k).1 (bodyOf Try.f37) :=
  cok_of (tl := [(1, runD_ ρ c20l1 fun K => c20l1f k K k)]) (tj := []) (tb := []) rfl rfl rfl (all_nth 1 (by kernel_rfl) ⟨iter_case (by kernel_rfl) rfl (c20l1i0 k), trivial⟩) (nil_all (by kernel_rfl)) (fun p hp => by cases hp)
theorem c20_n (k : Nat) : ConD (X := UX) Try.prog 37 c20_a B0 c20_d (fun a b => lex_span_fdigit k a.1 a.2.1) := conD xok tok Try.func37 (by kernel_rfl) (g := c20_G k) (c := c20_c k) rfl (c20_k k) (fun _ => by kernel_rfl) fun a b => by kernel_rfl
noncomputable def c20_A (k : Nat) : AP UX Try.prog ρ 37 := apD Try.func37 (by kernel_rfl) c20_a B0 c20_d _ (c20_n k)


/-! cadastre/lex.token -/
noncomputable def c21_a := Dc.cons ps.pv <| Dc.cons pi_i64.pv <| A0
noncomputable def c21_d := one_ (Dc.tup (Dc.cons p_s56 <| Dc.cons pi_i64 <| Dc.last pb)).pv
noncomputable def c21_G (k : Nat) : GP UX Try.prog ρ := gC 44 (c14_A k) <| gC 41 (c8_A k) <| gC 42 (c9_A k) <| gC 43 (c12_A k) <| gC 37 (gS [0, 0, 47] (c19_A k) (c20_A k)) <| gC 46 (c15_A k) <| gC 47 (c16_A k) <| gC 48 (c17_A k) <| gN
noncomputable def c21j3 := Dc.st (Dc.at_ 0 ps.pv <| Dc.at_ 1 pi_i64.pv <| Dc.at0 4 (Dc.p 4 0) <| Dc.at_ 7 pi_u8.pv <| E0) (Dc.at_ 4 b56 <| H0)
noncomputable def c21y0 (K : Ex → St UU → Option ρ) (s0 : ByteArray) (at1 : Int) (t4 : SToken) : Option ρ := K (.goto 1) ⟨[(0, .pv (.str s0)), (1, .pv (.int .i64 at1)), (4, .ptr 4 0)], [(4, b56.enc t4)]⟩
noncomputable def c21y1 (K : Ex → St UU → Option ρ) (s0 : ByteArray) (at1 : Int) (t4 : SToken) : Option ρ := K (.goto 2) ⟨[(0, .pv (.str s0)), (1, .pv (.int .i64 at1)), (4, .ptr 4 0)], [(4, b56.enc t4)]⟩
noncomputable def c21y2 (K : Ex → St UU → Option ρ) (s0 : ByteArray) (at1 : Int) (t4 : SToken) : Option ρ := K (.goto 3) ⟨[(0, .pv (.str s0)), (1, .pv (.int .i64 at1)), (4, .ptr 4 0)], [(4, b56.enc t4)]⟩
noncomputable def c21y3 (K : Ex → St UU → Option ρ) (end5 : Int) (ok6 : Bool) (t4 : SToken) : Option ρ := K .ret ⟨[(4, .ptr 4 0), (5, .pv (.int .i64 end5)), (6, .pv (.bool ok6))], [(4, b56.enc t4)]⟩
noncomputable def c21j3f (k : Nat) (K : Ex → St UU → Option ρ) (v : c21j3.T) : Option ρ := lex_token_j3 k (c21y0 K) (c21y1 K) (c21y2 K) (c21y3 K) v.1.1 v.1.2.1 v.1.2.2.1 v.2.1
noncomputable def c21_c (k : Nat) : Cfg UX ρ := cfgOf UX ρ 112 [(0, [0, 1]), (1, [0, 1, 4]), (2, [0, 1, 4, 7]), (3, [0, 1, 4, 7]), (4, [0, 1, 4, 7]), (5, [0, 1, 4, 7]), (6, [0, 1, 4]), (7, [0, 1, 4, 8]), (8, [0, 1, 4, 8]), (9, [1, 4, 8]), (10, [1, 4, 8]), (11, [1, 4, 8]), (12, [4]), (13, [0, 1, 4]), (14, [0, 1, 4]), (15, [4, 5, 6]), (16, [0, 1, 4]), (17, [0, 1, 4, 5]), (18, [0, 1, 4]), (19, [0, 1, 4]), (20, [0, 1, 4, 5]), (21, [4, 5, 6]), (22, [0, 1, 4]), (23, [0, 1, 4]), (24, [4, 5, 6])] [(1, [4]), (2, [4]), (3, [4]), (4, [4]), (5, [4]), (6, [4]), (7, [4]), (8, [4]), (9, [4]), (10, [4]), (11, [4]), (12, [4]), (13, [4]), (14, [4]), (15, [4]), (16, [4]), (17, [4]), (18, [4]), (19, [4]), (20, [4]), (21, [4]), (22, [4]), (23, [4]), (24, [4])] (joins := [(3, runD_ ρ c21j3 (c21j3f k))]) (xr := [(3, [4, 5, 6], [4])]) (xg := [(3, [(1, [0, 1, 4], [4]), (2, [0, 1, 4], [4]), (3, [0, 1, 4], [4])])])
noncomputable def c21_J : List Code := selI [3] (joinsOf (bodyOf Try.f22))
theorem c21j3i0 (k : Nat) : JoinOK UX (c21_c (ρ := ρ) k) (c21_G k).1 (c21_J.getD 0 .skip) 3 (runD_ ρ c21j3 (c21j3f k)) := joinD (X := UX) c21j3 (c21j3f k) fun K v => by kernel_rfl
theorem c21_k (k : Nat) : COK (c21_c (ρ := ρ) k) (c21_G k).1 (bodyOf Try.f22) :=
  cok_of (tl := []) (tj := [(3, runD_ ρ c21j3 (c21j3f k))]) (tb := []) rfl rfl rfl (nil_all (by kernel_rfl)) (all_nth 1 (by kernel_rfl) ⟨join_case (by kernel_rfl) rfl (c21j3i0 k), trivial⟩) (fun p hp => by cases hp)
theorem c21_n (k : Nat) : ConD (X := UX) Try.prog 22 c21_a B0 c21_d (fun a b => lex_token k a.1 a.2.1) := conD xok tok Try.func22 (by kernel_rfl) (g := c21_G k) (c := c21_c k) rfl (c21_k k) (fun _ => by kernel_rfl) fun a b => by kernel_rfl
noncomputable def c21_A (k : Nat) : AP UX Try.prog ρ 22 := apD Try.func22 (by kernel_rfl) c21_a B0 c21_d _ (c21_n k)


/-! cadastre/lex.long -/
noncomputable def c22_a := Dc.cons p_s56.pv <| A0
noncomputable def c22_d := one_ pb.pv
noncomputable def c22_G (k : Nat) : GP UX Try.prog ρ := gN
noncomputable def c22_c (k : Nat) : Cfg UX ρ := cfgOf UX ρ 14 [(0, [0]), (1, [1]), (2, [1]), (3, [1])] [(1, [1]), (2, [1]), (3, [1])]
theorem c22_n (k : Nat) : ConD (X := UX) Try.prog 23 c22_a B0 c22_d (fun a b => lex_long k a.1) := conD xok tok Try.func23 (by kernel_rfl) (g := c22_G k) (c := c22_c k) rfl (cok0 rfl rfl rfl) (fun _ => by kernel_rfl) fun a b => by kernel_rfl
noncomputable def c22_A (k : Nat) : AP UX Try.prog ρ 23 := apD Try.func23 (by kernel_rfl) c22_a B0 c22_d _ (c22_n k)


/-! cadastre/lex.Tokens -/
noncomputable def c23_a := Dc.cons ps.pv <| A0
noncomputable def c23_d := one_ (Dc.tup (Dc.cons p_l56 <| Dc.last pi_i64)).pv
noncomputable def c23_G (k : Nat) : GP UX Try.prog ρ := gC 21 (c7_A k) <| gC 22 (c21_A k) <| gC 23 (c22_A k) <| gN
noncomputable def c23l6 := Dc.st (Dc.at_ 0 ps.pv <| Dc.at_ 4 o_l56 <| Dc.at_ 5 pi_i64.pv <| Dc.at_ 6 pi_i64.pv <| E0) (H0)
noncomputable def c23y0 (K : Ex → St UU → Option ρ) (t2 : List SToken) (t3 : Int) : Option ρ := K .ret ⟨[(2, .own (.l56 t2)), (3, .pv (.int .i64 t3))], []⟩
noncomputable def c23y1 (K : Ex → St UU → Option ρ) (l4 : List SToken) (e5 : Int) : Option ρ := K (.exit 0) ⟨[(4, .own (.l56 l4)), (5, .pv (.int .i64 e5))], []⟩
noncomputable def c23l6f (k : Nat) (K : Ex → St UU → Option ρ) (n : Nat) (v : c23l6.T) : Option ρ := lex_Tokens_l6 k (c23y0 K) (c23y1 K) n v.1.1 v.1.2.1 v.1.2.2.1 v.1.2.2.2.1
noncomputable def c23_c (k : Nat) : Cfg UX ρ := cfgOf UX ρ 42 [(0, [0]), (1, [0]), (3, [0]), (4, [0, 4]), (5, [0, 4, 5]), (6, [0, 4, 5, 6]), (7, [0, 4, 5, 6]), (8, [0, 4, 5, 6]), (9, [0, 4, 5, 7, 8, 9]), (11, [0, 4, 5, 7, 8]), (12, [0, 4, 7, 8]), (13, [0, 4, 5, 7, 8]), (14, [0, 4, 5, 8]), (15, [4, 5]), (16, [5]), (17, [4])] [(9, [7]), (11, [7]), (12, [7]), (13, [7])] (tk := [(1000000, [2, 4])]) (loops := [(6, runD_ ρ c23l6 fun K => c23l6f k K k)]) (xr := [(6, [2, 3], [])]) (xe := [(6, [(0, [4, 5], [])])])
noncomputable def c23_L : List Code := selI [6] (loopsOf (bodyOf Try.f11))
theorem c23l6i0 (k : Nat) : IterOK UX (c23_c (ρ := ρ) k) (c23_G k).1 (c23_L.getD 0 .skip) 6 (runD_ ρ c23l6 fun K => c23l6f k K k) := iterD (X := UX) (k := k) c23l6 (c23l6f k) (fun K rec v => lex_Tokens_l6_b k (c23y0 K) (c23y1 K) (fun s0 l4 e5 at6 => rec ((s0, l4, e5, at6, ()), ())) v.1.1 v.1.2.1 v.1.2.2.1 v.1.2.2.2.1) (fun K n v => by kernel_rfl) (fun _ _ => rfl) fun _ _ _ => rfl
theorem c23_k (k : Nat) : COK (c23_c (ρ := ρ) k) (c23_G k).1 (bodyOf Try.f11) :=
  cok_of (tl := [(6, runD_ ρ c23l6 fun K => c23l6f k K k)]) (tj := []) (tb := []) rfl rfl rfl (all_nth 1 (by kernel_rfl) ⟨iter_case (by kernel_rfl) rfl (c23l6i0 k), trivial⟩) (nil_all (by kernel_rfl)) (fun p hp => by cases hp)
theorem c23_n (k : Nat) : ConD (X := UX) Try.prog 11 c23_a B0 c23_d (fun a b => lex_Tokens k a.1) := conD xok tok Try.func11 (by kernel_rfl) (g := c23_G k) (c := c23_c k) rfl (c23_k k) (fun _ => by kernel_rfl) fun a b => by kernel_rfl
noncomputable def c23_A (k : Nat) : AP UX Try.prog ρ 11 := apD Try.func11 (by kernel_rfl) c23_a B0 c23_d _ (c23_n k)


/-! cadastre/parse.Keys -/
noncomputable def c24_a := A0
noncomputable def c24_d := one_ o_ls
noncomputable def c24_G (k : Nat) : GP UX Try.prog ρ := gN
noncomputable def c24_c (k : Nat) : Cfg UX ρ := cfgOf UX ρ 2 [] [] (tk := [(1000000, [0])])
theorem c24_n (k : Nat) : ConD (X := UX) Try.prog 74 c24_a B0 c24_d (fun a b => parse_Keys k) := conD xok tok Try.func74 (by kernel_rfl) (g := c24_G k) (c := c24_c k) rfl (cok0 rfl rfl rfl) (fun _ => by kernel_rfl) fun a b => by kernel_rfl
noncomputable def c24_A (k : Nat) : AP UX Try.prog ρ 74 := apD Try.func74 (by kernel_rfl) c24_a B0 c24_d _ (c24_n k)


/-! cmp.isNaN[string] -/
noncomputable def c25_a := Dc.cons ps.pv <| A0
noncomputable def c25_d := one_ pb.pv
noncomputable def c25_G (k : Nat) : GP UX Try.prog ρ := gN
noncomputable def c25_c (k : Nat) : Cfg UX ρ := cfgOf UX ρ 6 [(0, [0]), (1, [0])] []
theorem c25_n (k : Nat) : ConD (X := UX) Try.prog 83 c25_a B0 c25_d (fun a b => cmp_isNaN_string_ k a.1) := conD xok tok Try.func83 (by kernel_rfl) (g := c25_G k) (c := c25_c k) rfl (cok0 rfl rfl rfl) (fun _ => by kernel_rfl) fun a b => by kernel_rfl
noncomputable def c25_A (k : Nat) : AP UX Try.prog ρ 83 := apD Try.func83 (by kernel_rfl) c25_a B0 c25_d _ (c25_n k)


/-! cmp.Less[string] -/
noncomputable def c26_a := Dc.cons ps.pv <| Dc.cons ps.pv <| A0
noncomputable def c26_d := one_ pb.pv
noncomputable def c26_G (k : Nat) : GP UX Try.prog ρ := gC 83 (c25_A k) <| gN
noncomputable def c26_c (k : Nat) : Cfg UX ρ := cfgOf UX ρ 17 [(0, [0, 1]), (1, [0, 1])] []
theorem c26_n (k : Nat) : ConD (X := UX) Try.prog 78 c26_a B0 c26_d (fun a b => cmp_Less_string_ k a.1 a.2.1) := conD xok tok Try.func78 (by kernel_rfl) (g := c26_G k) (c := c26_c k) rfl (cok0 rfl rfl rfl) (fun _ => by kernel_rfl) fun a b => by kernel_rfl
noncomputable def c26_A (k : Nat) : AP UX Try.prog ρ 78 := apD Try.func78 (by kernel_rfl) c26_a B0 c26_d _ (c26_n k)


/-! slices.isNaN[string] -/
noncomputable def c27_a := Dc.cons ps.pv <| A0
noncomputable def c27_d := one_ pb.pv
noncomputable def c27_G (k : Nat) : GP UX Try.prog ρ := gN
noncomputable def c27_c (k : Nat) : Cfg UX ρ := cfgOf UX ρ 6 [(0, [0]), (1, [0])] []
theorem c27_n (k : Nat) : ConD (X := UX) Try.prog 79 c27_a B0 c27_d (fun a b => slices_isNaN_string_ k a.1) := conD xok tok Try.func79 (by kernel_rfl) (g := c27_G k) (c := c27_c k) rfl (cok0 rfl rfl rfl) (fun _ => by kernel_rfl) fun a b => by kernel_rfl
noncomputable def c27_A (k : Nat) : AP UX Try.prog ρ 79 := apD Try.func79 (by kernel_rfl) c27_a B0 c27_d _ (c27_n k)


/-! slices.BinarySearch[[]string,string] -/
noncomputable def c28_a := Dc.cons p_ls.pv <| Dc.cons ps.pv <| A0
noncomputable def c28_d := one_ (Dc.tup (Dc.cons pi_i64 <| Dc.last pb)).pv
noncomputable def c28_G (k : Nat) : GP UX Try.prog ρ := gC 78 (c26_A k) <| gC 79 (c27_A k) <| gN
noncomputable def c28l3 := Dc.st (Dc.at_ 0 p_ls.pv <| Dc.at_ 1 ps.pv <| Dc.at_ 6 pi_i64.pv <| Dc.at_ 7 pi_i64.pv <| Dc.at_ 8 pi_i64.pv <| E0) (H0)
noncomputable def c28y0 (K : Ex → St UU → Option ρ) (x0 : List ByteArray) (target1 : ByteArray) (n6 : Int) (i7 : Int) : Option ρ := K (.exit 0) ⟨[(0, .pv (.typ (.ls x0))), (1, .pv (.str target1)), (6, .pv (.int .i64 n6)), (7, .pv (.int .i64 i7))], []⟩
noncomputable def c28l3f (k : Nat) (K : Ex → St UU → Option ρ) (n : Nat) (v : c28l3.T) : Option ρ := slices_BinarySearch_string_string__l3 k (c28y0 K) n v.1.1 v.1.2.1 v.1.2.2.1 v.1.2.2.2.1 v.1.2.2.2.2.1
noncomputable def c28_c (k : Nat) : Cfg UX ρ := cfgOf UX ρ 54 [(0, [0, 1]), (1, [0, 1]), (2, [0, 1, 6]), (3, [0, 1, 6, 7, 8]), (4, [0, 1, 6, 7, 8]), (5, [0, 1, 6, 7, 8, 9]), (6, [0, 1, 6, 8, 9]), (7, [0, 1, 6, 7, 9]), (8, [0, 1, 6, 7])] [] (loops := [(3, runD_ ρ c28l3 fun K => c28l3f k K k)]) (xe := [(3, [(0, [0, 1, 6, 7], [])])])
noncomputable def c28_L : List Code := selI [3] (loopsOf (bodyOf Try.f73))
theorem c28l3i0 (k : Nat) : IterOK UX (c28_c (ρ := ρ) k) (c28_G k).1 (c28_L.getD 0 .skip) 3 (runD_ ρ c28l3 fun K => c28l3f k K k) := iterD (X := UX) (k := k) c28l3 (c28l3f k) (fun K rec v => slices_BinarySearch_string_string__l3_b k (c28y0 K) (fun x0 target1 n6 i7 j8 => rec ((x0, target1, n6, i7, j8, ()), ())) v.1.1 v.1.2.1 v.1.2.2.1 v.1.2.2.2.1 v.1.2.2.2.2.1) (fun K n v => by kernel_rfl) (fun _ _ => rfl) fun _ _ _ => rfl
theorem c28_k (k : Nat) : COK (c28_c (ρ := ρ) k) (c28_G k).1 (bodyOf Try.f73) :=
  cok_of (tl := [(3, runD_ ρ c28l3 fun K => c28l3f k K k)]) (tj := []) (tb := []) rfl rfl rfl (all_nth 1 (by kernel_rfl) ⟨iter_case (by kernel_rfl) rfl (c28l3i0 k), trivial⟩) (nil_all (by kernel_rfl)) (fun p hp => by cases hp)
theorem c28_n (k : Nat) : ConD (X := UX) Try.prog 73 c28_a B0 c28_d (fun a b => slices_BinarySearch_string_string_ k a.1 a.2.1) := conD xok tok Try.func73 (by kernel_rfl) (g := c28_G k) (c := c28_c k) rfl (c28_k k) (fun _ => by kernel_rfl) fun a b => by kernel_rfl
noncomputable def c28_A (k : Nat) : AP UX Try.prog ρ 73 := apD Try.func73 (by kernel_rfl) c28_a B0 c28_d _ (c28_n k)


/-! cadastre/parse.Name -/
noncomputable def c29_a := Dc.cons ps.pv <| A0
noncomputable def c29_d := one_ pb.pv
noncomputable def c29_G (k : Nat) : GP UX Try.prog ρ := gC 74 (c24_A k) <| gC 73 (c28_A k) <| gN
noncomputable def c29_c (k : Nat) : Cfg UX ρ := cfgOf UX ρ 13 [(0, [0]), (1, [0]), (2, [4])] []
theorem c29_n (k : Nat) : ConD (X := UX) Try.prog 60 c29_a B0 c29_d (fun a b => parse_Name k a.1) := conD xok tok Try.func60 (by kernel_rfl) (g := c29_G k) (c := c29_c k) rfl (cok0 rfl rfl rfl) (fun _ => by kernel_rfl) fun a b => by kernel_rfl
noncomputable def c29_A (k : Nat) : AP UX Try.prog ρ 60 := apD Try.func60 (by kernel_rfl) c29_a B0 c29_d _ (c29_n k)

abbrev c30 := parse_Height_R
noncomputable def c31_a := Dc.cons p_s69.pv <| A0
noncomputable def c31_d := one_ pi_i64.pv
structure c30_ok (rc : c30) : Prop where
  c31 : ConD (X := UX) Try.prog 72 c31_a B0 c31_d (fun a b => rc.parse_Height a.1)
noncomputable def c31_A0 {rc : c30} (hrc : c30_ok rc) : AP UX Try.prog ρ 72 := apD Try.func72 (by kernel_rfl) c31_a B0 c31_d _ hrc.c31

/-! cadastre/parse.Height -/
noncomputable def c31_G (k : Nat) (rc : c30) (hrc : c30_ok rc) : GP UX Try.prog ρ := gC 72 (c31_A0 hrc) <| gN
noncomputable def c31l3 := Dc.st (Dc.at_ 3 pi_i64.pv <| Dc.at_ 7 p_l69.pv <| Dc.at_ 8 pi_i64.pv <| Dc.at_ 9 pi_i64.pv <| E0) (H0)
noncomputable def c31y0 (K : Ex → St UU → Option ρ) (h3 : Int) : Option ρ := K (.exit 0) ⟨[(3, .pv (.int .i64 h3))], []⟩
noncomputable def c31l3f (k : Nat) (rc : c30) (K : Ex → St UU → Option ρ) (n : Nat) (v : c31l3.T) : Option ρ := parse_Height_l3 k rc (c31y0 K) n v.1.1 v.1.2.1 v.1.2.2.1 v.1.2.2.2.1
noncomputable def c31_c (k : Nat) (rc : c30) : Cfg UX ρ := cfgOf UX ρ 20 [(0, [0]), (1, [1]), (2, [1, 3]), (3, [3, 7, 8, 9]), (4, [3, 7, 8, 9]), (5, [3, 5, 7, 8, 9]), (6, [3, 7, 8, 9]), (7, [3])] [(1, [1]), (2, [1]), (5, [5])] (loops := [(3, runD_ ρ c31l3 fun K => c31l3f k rc K k)]) (xe := [(3, [(0, [3], [])])])
noncomputable def c31_L : List Code := selI [3] (loopsOf (bodyOf Try.f72))
theorem c31l3i0 (k : Nat) (rc : c30) (hrc : c30_ok rc) : IterOK UX (c31_c (ρ := ρ) k rc) (c31_G k rc hrc).1 (c31_L.getD 0 .skip) 3 (runD_ ρ c31l3 fun K => c31l3f k rc K k) := iterD (X := UX) (k := k) c31l3 (c31l3f k rc) (fun K rec v => parse_Height_l3_b k rc (c31y0 K) (fun h3 t7 t8 t9 => rec ((h3, t7, t8, t9, ()), ())) v.1.1 v.1.2.1 v.1.2.2.1 v.1.2.2.2.1) (fun K n v => by kernel_rfl) (fun _ _ => rfl) fun _ _ _ => rfl
theorem c31_k (k : Nat) (rc : c30) (hrc : c30_ok rc) : COK (c31_c (ρ := ρ) k rc) (c31_G k rc hrc).1 (bodyOf Try.f72) :=
  cok_of (tl := [(3, runD_ ρ c31l3 fun K => c31l3f k rc K k)]) (tj := []) (tb := []) rfl rfl rfl (all_nth 1 (by kernel_rfl) ⟨iter_case (by kernel_rfl) rfl (c31l3i0 k rc hrc), trivial⟩) (nil_all (by kernel_rfl)) (fun p hp => by cases hp)
theorem c31_n0 (k : Nat) (rc : c30) (hrc : c30_ok rc) : ConD (X := UX) Try.prog 72 c31_a B0 c31_d (fun a b => parse_Height_r k rc a.1) := conD xok tok Try.func72 (by kernel_rfl) (g := c31_G k rc hrc) (c := c31_c k rc) rfl (c31_k k rc hrc) (fun _ => by kernel_rfl) fun a b => by kernel_rfl
theorem c30_it (k : Nat) : ∀ d, c30_ok (parse_Height_R_it k d)
  | 0 => ⟨ConD.zero⟩
  | d + 1 => ⟨c31_n0 k _ (c30_it k d)⟩
theorem c31_n (k : Nat) : ConD (X := UX) Try.prog 72 c31_a B0 c31_d (fun a b => parse_Height k a.1) := (c30_it k k).c31
noncomputable def c31_A (k : Nat) : AP UX Try.prog ρ 72 := apD Try.func72 (by kernel_rfl) c31_a B0 c31_d _ (c31_n k)


/-! (*cadastre/parse.reader).is -/
noncomputable def c32_a := Dc.cons0 (Dc.p 1000 0) <| Dc.cons ps.pv <| A0
noncomputable def c32_b := Dc.cons b43 <| B0
noncomputable def c32_d := Dc.two pb.pv (Dc.last b43)
noncomputable def c32_G (k : Nat) : GP UX Try.prog ρ := gN
noncomputable def c32_c (k : Nat) : Cfg UX ρ := cfgOf UX ρ 42 [(0, [0, 1]), (1, [0, 1])] []
theorem c32_n (k : Nat) : ConD (X := UX) Try.prog 33 c32_a c32_b c32_d (fun a b => parse_reader_is_p0 k a.1 b.1) := conD xok tok Try.func33 (by kernel_rfl) (g := c32_G k) (c := c32_c k) rfl (cok0 rfl rfl rfl) (fun _ => by kernel_rfl) fun a b => by kernel_rfl
noncomputable def c32_A (k : Nat) : AP UX Try.prog ρ 33 := apD Try.func33 (by kernel_rfl) c32_a c32_b c32_d _ (c32_n k)


/-! (*cadastre/parse.reader).got -/
noncomputable def c33_a := Dc.cons0 (Dc.p 1000 0) <| Dc.cons ps.pv <| A0
noncomputable def c33_b := Dc.cons b43 <| B0
noncomputable def c33_d := Dc.two pb.pv (Dc.last b43)
noncomputable def c33_G (k : Nat) : GP UX Try.prog ρ := gC 33 (c32_A k) <| gN
noncomputable def c33_c (k : Nat) : Cfg UX ρ := cfgOf UX ρ 17 [(0, [0, 1]), (1, [0, 1]), (3, [0])] []
theorem c33_n (k : Nat) : ConD (X := UX) Try.prog 13 c33_a c33_b c33_d (fun a b => parse_reader_got_p0 k a.1 b.1) := conD xok tok Try.func13 (by kernel_rfl) (g := c33_G k) (c := c33_c k) rfl (cok0 rfl rfl rfl) (fun _ => by kernel_rfl) fun a b => by kernel_rfl
noncomputable def c33_A (k : Nat) : AP UX Try.prog ρ 13 := apD Try.func13 (by kernel_rfl) c33_a c33_b c33_d _ (c33_n k)


/-! (*cadastre/parse.reader).fail -/
noncomputable def c34_a := Dc.cons0 (Dc.p 1000 0) <| A0
noncomputable def c34_b := Dc.cons b43 <| B0
noncomputable def c34_d := Dc.two (Dc.tup P0).pv (Dc.last b43)
noncomputable def c34_G (k : Nat) : GP UX Try.prog ρ := gN
noncomputable def c34_c (k : Nat) : Cfg UX ρ := cfgOf UX ρ 5 [(0, [0])] []
theorem c34_n (k : Nat) : ConD (X := UX) Try.prog 32 c34_a c34_b c34_d (fun a b => parse_reader_fail_p0 k b.1) := conD xok tok Try.func32 (by kernel_rfl) (g := c34_G k) (c := c34_c k) rfl (cok0 rfl rfl rfl) (fun _ => by kernel_rfl) fun a b => by kernel_rfl
noncomputable def c34_A (k : Nat) : AP UX Try.prog ρ 32 := apD Try.func32 (by kernel_rfl) c34_a c34_b c34_d _ (c34_n k)


/-! (*cadastre/parse.reader).name -/
noncomputable def c35_a := Dc.cons0 (Dc.p 1000 0) <| A0
noncomputable def c35_b := Dc.cons b43 <| B0
noncomputable def c35_d := Dc.two ps.pv (Dc.last b43)
noncomputable def c35_G (k : Nat) : GP UX Try.prog ρ := gC 32 (c34_A k) <| gC 60 (c29_A k) <| gN
noncomputable def c35j4 := Dc.st (Dc.at0 0 (Dc.p 1000 0) <| E0) (Dc.at_ 1000 b43 <| H0)
noncomputable def c35y0 (K : Ex → St UU → Option ρ) (t2 : ByteArray) (t1000 : Sreader) : Option ρ := K .ret ⟨[(2, .pv (.str t2))], [(1000, b43.enc t1000)]⟩
noncomputable def c35j4f (k : Nat) (K : Ex → St UU → Option ρ) (v : c35j4.T) : Option ρ := parse_reader_name_p0_j4 k (c35y0 K) v.2.1
noncomputable def c35_c (k : Nat) : Cfg UX ρ := cfgOf UX ρ 49 [(0, [0]), (1, [0]), (2, [0]), (4, [0]), (5, [0, 3]), (6, [3])] [] (joins := [(4, runD_ ρ c35j4 (c35j4f k))]) (xr := [(4, [2], [])])
noncomputable def c35_J : List Code := selI [4] (joinsOf (bodyOf Try.f28))
theorem c35j4i0 (k : Nat) : JoinOK UX (c35_c (ρ := ρ) k) (c35_G k).1 (c35_J.getD 0 .skip) 4 (runD_ ρ c35j4 (c35j4f k)) := joinD (X := UX) c35j4 (c35j4f k) fun K v => by kernel_rfl
theorem c35_k (k : Nat) : COK (c35_c (ρ := ρ) k) (c35_G k).1 (bodyOf Try.f28) :=
  cok_of (tl := []) (tj := [(4, runD_ ρ c35j4 (c35j4f k))]) (tb := []) rfl rfl rfl (nil_all (by kernel_rfl)) (all_nth 1 (by kernel_rfl) ⟨join_case (by kernel_rfl) rfl (c35j4i0 k), trivial⟩) (fun p hp => by cases hp)
theorem c35_n (k : Nat) : ConD (X := UX) Try.prog 28 c35_a c35_b c35_d (fun a b => parse_reader_name_p0 k b.1) := conD xok tok Try.func28 (by kernel_rfl) (g := c35_G k) (c := c35_c k) rfl (c35_k k) (fun _ => by kernel_rfl) fun a b => by kernel_rfl
noncomputable def c35_A (k : Nat) : AP UX Try.prog ρ 28 := apD Try.func28 (by kernel_rfl) c35_a c35_b c35_d _ (c35_n k)


/-! (*cadastre/parse.reader).must -/
noncomputable def c36_a := Dc.cons0 (Dc.p 1000 0) <| Dc.cons p_ls.pv <| A0
noncomputable def c36_b := Dc.cons b43 <| B0
noncomputable def c36_d := Dc.two (Dc.tup P0).pv (Dc.last b43)
noncomputable def c36_G (k : Nat) : GP UX Try.prog ρ := gC 13 (c33_A k) <| gC 32 (c34_A k) <| gN
noncomputable def c36l1 := Dc.st (Dc.at0 0 (Dc.p 1000 0) <| Dc.at_ 6 p_ls.pv <| Dc.at_ 7 pi_i64.pv <| Dc.at_ 8 pi_i64.pv <| E0) (Dc.at_ 1000 b43 <| H0)
noncomputable def c36y0 (K : Ex → St UU → Option ρ) (t1000 : Sreader) : Option ρ := K (.goto 0) ⟨[(0, .ptr 1000 0)], [(1000, b43.enc t1000)]⟩
noncomputable def c36y1 (K : Ex → St UU → Option ρ) (t1000 : Sreader) : Option ρ := K (.exit 0) ⟨[], [(1000, b43.enc t1000)]⟩
noncomputable def c36l1f (k : Nat) (K : Ex → St UU → Option ρ) (n : Nat) (v : c36l1.T) : Option ρ := parse_reader_must_p0_l1 k (c36y0 K) (c36y1 K) n v.1.1 v.1.2.1 v.1.2.2.1 v.2.1
noncomputable def c36_c (k : Nat) : Cfg UX ρ := cfgOf UX ρ 25 [(0, [0, 1]), (1, [0, 6, 7, 8]), (2, [0, 6, 7, 8]), (3, [0, 5, 6, 7, 8]), (4, [0, 6, 7, 8]), (5, [0])] [] (loops := [(1, runD_ ρ c36l1 fun K => c36l1f k K k)]) (xe := [(1, [(0, [], [])])]) (xg := [(1, [(0, [0], [])])])
noncomputable def c36_L : List Code := selI [1] (loopsOf (bodyOf Try.f27))
theorem c36l1i0 (k : Nat) : IterOK UX (c36_c (ρ := ρ) k) (c36_G k).1 (c36_L.getD 0 .skip) 1 (runD_ ρ c36l1 fun K => c36l1f k K k) := iterD (X := UX) (k := k) c36l1 (c36l1f k) (fun K rec v => parse_reader_must_p0_l1_b k (c36y0 K) (c36y1 K) (fun t6 t7 t8 t1000 => rec ((t6, t7, t8, ()), t1000, ())) v.1.1 v.1.2.1 v.1.2.2.1 v.2.1) (fun K n v => by kernel_rfl) (fun _ _ => rfl) fun _ _ _ => rfl
theorem c36_k (k : Nat) : COK (c36_c (ρ := ρ) k) (c36_G k).1 (bodyOf Try.f27) :=
  cok_of (tl := [(1, runD_ ρ c36l1 fun K => c36l1f k K k)]) (tj := []) (tb := []) rfl rfl rfl (all_nth 1 (by kernel_rfl) ⟨iter_case (by kernel_rfl) rfl (c36l1i0 k), trivial⟩) (nil_all (by kernel_rfl)) (fun p hp => by cases hp)
theorem c36_n (k : Nat) : ConD (X := UX) Try.prog 27 c36_a c36_b c36_d (fun a b => parse_reader_must_p0 k a.1 b.1) := conD xok tok Try.func27 (by kernel_rfl) (g := c36_G k) (c := c36_c k) rfl (c36_k k) (fun _ => by kernel_rfl) fun a b => by kernel_rfl
noncomputable def c36_A (k : Nat) : AP UX Try.prog ρ 27 := apD Try.func27 (by kernel_rfl) c36_a c36_b c36_d _ (c36_n k)


/-! (*cadastre/parse.reader).column -/
noncomputable def c37_a := Dc.cons0 (Dc.p 1000 0) <| A0
noncomputable def c37_b := Dc.cons b43 <| B0
noncomputable def c37_d := Dc.two p_s64.pv (Dc.last b43)
noncomputable def c37_G (k : Nat) : GP UX Try.prog ρ := gC 28 (c35_A k) <| gC 13 (c33_A k) <| gC 27 (c36_A k) <| gN
noncomputable def c37l3 := Dc.st (Dc.at0 0 (Dc.p 1000 0) <| Dc.at0 2 (Dc.p 2 0) <| Dc.at0 3 (Dc.p 3 0) <| Dc.at_ 9 o_ls <| Dc.at_ 10 pi_i64.pv <| Dc.at_ 11 pi_i64.pv <| E0) (Dc.at_ 2 b64 <| Dc.at_ 3 b64 <| Dc.at_ 1000 b43 <| H0)
noncomputable def c37y0 (K : Ex → St UU → Option ρ) (t2 : SColumn) (c3 : SColumn) (t1000 : Sreader) : Option ρ := K (.exit 0) ⟨[(0, .ptr 1000 0), (2, .ptr 2 0), (3, .ptr 3 0)], [(2, b64.enc t2), (3, b64.enc c3), (1000, b43.enc t1000)]⟩
noncomputable def c37l3f (k : Nat) (K : Ex → St UU → Option ρ) (n : Nat) (v : c37l3.T) : Option ρ := parse_reader_column_p0_l3 k (c37y0 K) n v.1.1 v.1.2.1 v.1.2.2.1 v.2.1 v.2.2.1 v.2.2.2.1
noncomputable def c37_c (k : Nat) : Cfg UX ρ := cfgOf UX ρ 33 [(0, [0]), (1, [0, 2]), (2, [0, 2, 3]), (3, [0, 2, 3, 9, 10, 11]), (4, [0, 2, 3, 9, 10, 11]), (5, [0, 2, 3, 4, 5, 9, 10, 11]), (6, [0, 2, 3, 4]), (7, [0, 2, 3, 9, 10, 11]), (8, [0, 2, 3]), (9, [0, 2, 3]), (10, [2, 3]), (11, [2, 3])] [(1, [2]), (2, [2, 3]), (3, [2, 3]), (4, [2, 3]), (5, [2, 3]), (6, [2, 3]), (7, [2, 3]), (8, [2, 3]), (9, [2, 3]), (10, [2, 3]), (11, [2, 3])] (loops := [(3, runD_ ρ c37l3 fun K => c37l3f k K k)]) (xe := [(3, [(0, [0, 2, 3], [2, 3])])])
noncomputable def c37_L : List Code := selI [3] (loopsOf (bodyOf Try.f52))
theorem c37l3i0 (k : Nat) : IterOK UX (c37_c (ρ := ρ) k) (c37_G k).1 (c37_L.getD 0 .skip) 3 (runD_ ρ c37l3 fun K => c37l3f k K k) := iterD (X := UX) (k := k) c37l3 (c37l3f k) (fun K rec v => parse_reader_column_p0_l3_b k (c37y0 K) (fun t9 t10 t11 t2 c3 t1000 => rec ((t9, t10, t11, ()), t2, c3, t1000, ())) v.1.1 v.1.2.1 v.1.2.2.1 v.2.1 v.2.2.1 v.2.2.2.1) (fun K n v => by kernel_rfl) (fun _ _ => rfl) fun _ _ _ => rfl
theorem c37_k (k : Nat) : COK (c37_c (ρ := ρ) k) (c37_G k).1 (bodyOf Try.f52) :=
  cok_of (tl := [(3, runD_ ρ c37l3 fun K => c37l3f k K k)]) (tj := []) (tb := []) rfl rfl rfl (all_nth 1 (by kernel_rfl) ⟨iter_case (by kernel_rfl) rfl (c37l3i0 k), trivial⟩) (nil_all (by kernel_rfl)) (fun p hp => by cases hp)
theorem c37_n (k : Nat) : ConD (X := UX) Try.prog 52 c37_a c37_b c37_d (fun a b => parse_reader_column_p0 k b.1) := conD xok tok Try.func52 (by kernel_rfl) (g := c37_G k) (c := c37_c k) rfl (c37_k k) (fun _ => by kernel_rfl) fun a b => by kernel_rfl
noncomputable def c37_A (k : Nat) : AP UX Try.prog ρ 52 := apD Try.func52 (by kernel_rfl) c37_a c37_b c37_d _ (c37_n k)


/-! cadastre/parse.list[cadastre/api.Column] -/
noncomputable def c38_a := Dc.cons0 (Dc.p 1000 0) <| Dc.cons (Dc.fn 52 (Dc.cons0 (Dc.sp 1000 0) <| V0) (V0)) <| A0
noncomputable def c38_b := Dc.cons b43 <| B0
noncomputable def c38_d := Dc.two o_l64 (Dc.last b43)
noncomputable def c38_G (k : Nat) : GP UX Try.prog ρ := gC 52 (c37_A k) <| gC 13 (c33_A k) <| gN
noncomputable def c38l1 := Dc.st (Dc.at0 0 (Dc.p 1000 0) <| Dc.at_ 1 (Dc.fn 52 (Dc.cons0 (Dc.sp 1000 0) <| V0) (V0)) <| Dc.at_ 4 o_l64 <| E0) (Dc.at_ 1000 b43 <| H0)
noncomputable def c38y0 (K : Ex → St UU → Option ρ) (l4 : List SColumn) (t1000 : Sreader) : Option ρ := K (.exit 0) ⟨[(4, .own (.l64 l4))], [(1000, b43.enc t1000)]⟩
noncomputable def c38l1f (k : Nat) (K : Ex → St UU → Option ρ) (n : Nat) (v : c38l1.T) : Option ρ := parse_list_api_Column__p0_fcolumn_l1 k (c38y0 K) n v.1.2.1 v.2.1
noncomputable def c38_c (k : Nat) : Cfg UX ρ := cfgOf UX ρ 19 [(0, [0, 1]), (1, [0, 1, 4]), (2, [0, 1, 4]), (3, [0, 1, 4]), (4, [4])] [] (tk := [(1000000, [4])]) (loops := [(1, runD_ ρ c38l1 fun K => c38l1f k K k)]) (xe := [(1, [(0, [4], [])])])
noncomputable def c38_L : List Code := selI [1] (loopsOf (bodyOf Try.f51))
theorem c38l1i0 (k : Nat) : IterOK UX (c38_c (ρ := ρ) k) (c38_G k).1 (c38_L.getD 0 .skip) 1 (runD_ ρ c38l1 fun K => c38l1f k K k) := iterD (X := UX) (k := k) c38l1 (c38l1f k) (fun K rec v => parse_list_api_Column__p0_fcolumn_l1_b k (c38y0 K) (fun l4 t1000 => rec ((((), ()), l4, ()), t1000, ())) v.1.2.1 v.2.1) (fun K n v => by kernel_rfl) (fun _ _ => rfl) fun _ _ _ => rfl
theorem c38_k (k : Nat) : COK (c38_c (ρ := ρ) k) (c38_G k).1 (bodyOf Try.f51) :=
  cok_of (tl := [(1, runD_ ρ c38l1 fun K => c38l1f k K k)]) (tj := []) (tb := []) rfl rfl rfl (all_nth 1 (by kernel_rfl) ⟨iter_case (by kernel_rfl) rfl (c38l1i0 k), trivial⟩) (nil_all (by kernel_rfl)) (fun p hp => by cases hp)
theorem c38_n (k : Nat) : ConD (X := UX) Try.prog 51 c38_a c38_b c38_d (fun a b => parse_list_api_Column__p0_fcolumn k b.1) := conD xok tok Try.func51 (by kernel_rfl) (g := c38_G k) (c := c38_c k) rfl (c38_k k) (fun _ => by kernel_rfl) fun a b => by kernel_rfl
noncomputable def c38_A (k : Nat) : AP UX Try.prog ρ 51 := apD Try.func51 (by kernel_rfl) c38_a c38_b c38_d _ (c38_n k)


/-! (*cadastre/parse.reader).create$1 -/
noncomputable def c39_a := Dc.cons0 (Dc.rp 1000) <| A0
noncomputable def c39_b := Dc.cons b43 <| B0
noncomputable def c39_d := Dc.two o_l64 (Dc.last b43)
noncomputable def c39_G (k : Nat) : GP UX Try.prog ρ := gC 51 (c38_A k) <| gN
noncomputable def c39_c (k : Nat) : Cfg UX ρ := cfgOf UX ρ 6 [(0, [0]), (1, [0])] []
theorem c39_n (k : Nat) : ConD (X := UX) Try.prog 50 c39_a c39_b c39_d (fun a b => parse_reader_create_1_q0 k b.1) := conD xok tok Try.func50 (by kernel_rfl) (g := c39_G k) (c := c39_c k) rfl (cok0 rfl rfl rfl) (fun _ => by kernel_rfl) fun a b => by kernel_rfl
noncomputable def c39_A (k : Nat) : AP UX Try.prog ρ 50 := apD Try.func50 (by kernel_rfl) c39_a c39_b c39_d _ (c39_n k)


/-! cadastre/parse.in[[]cadastre/api.Column] -/
noncomputable def c40_a := Dc.cons0 (Dc.p 1000 0) <| Dc.cons (Dc.fn 50 (V0) (Dc.cons0 (Dc.srp 1000) <| V0)) <| A0
noncomputable def c40_b := Dc.cons b43 <| B0
noncomputable def c40_d := Dc.two o_l64 (Dc.last b43)
noncomputable def c40_G (k : Nat) : GP UX Try.prog ρ := gC 27 (c36_A k) <| gC 50 (c39_A k) <| gN
noncomputable def c40_c (k : Nat) : Cfg UX ρ := cfgOf UX ρ 15 [(0, [0, 1]), (1, [0, 1]), (2, [0, 1]), (3, [0, 5]), (4, [5])] []
theorem c40_n (k : Nat) : ConD (X := UX) Try.prog 49 c40_a c40_b c40_d (fun a b => parse_in_Lapi_Column__p0_fcreate_1 k b.1) := conD xok tok Try.func49 (by kernel_rfl) (g := c40_G k) (c := c40_c k) rfl (cok0 rfl rfl rfl) (fun _ => by kernel_rfl) fun a b => by kernel_rfl
noncomputable def c40_A (k : Nat) : AP UX Try.prog ρ 49 := apD Try.func49 (by kernel_rfl) c40_a c40_b c40_d _ (c40_n k)


/-! (*cadastre/parse.reader).most -/
noncomputable def c41_a := Dc.cons0 (Dc.p 1000 0) <| Dc.cons pi_i64.pv <| Dc.cons pi_i64.pv <| A0
noncomputable def c41_b := Dc.cons b43 <| B0
noncomputable def c41_d := Dc.two (Dc.tup P0).pv (Dc.last b43)
noncomputable def c41_G (k : Nat) : GP UX Try.prog ρ := gN
noncomputable def c41_c (k : Nat) : Cfg UX ρ := cfgOf UX ρ 12 [(0, [0, 1, 2]), (1, [0])] []
theorem c41_n (k : Nat) : ConD (X := UX) Try.prog 14 c41_a c41_b c41_d (fun a b => parse_reader_most_p0 k a.1 a.2.1 b.1) := conD xok tok Try.func14 (by kernel_rfl) (g := c41_G k) (c := c41_c k) rfl (cok0 rfl rfl rfl) (fun _ => by kernel_rfl) fun a b => by kernel_rfl
noncomputable def c41_A (k : Nat) : AP UX Try.prog ρ 14 := apD Try.func14 (by kernel_rfl) c41_a c41_b c41_d _ (c41_n k)


/-! cadastre/parse.list[string] -/
noncomputable def c42_a := Dc.cons0 (Dc.p 1000 0) <| Dc.cons (Dc.fn 28 (Dc.cons0 (Dc.sp 1000 0) <| V0) (V0)) <| A0
noncomputable def c42_b := Dc.cons b43 <| B0
noncomputable def c42_d := Dc.two o_ls (Dc.last b43)
noncomputable def c42_G (k : Nat) : GP UX Try.prog ρ := gC 28 (c35_A k) <| gC 13 (c33_A k) <| gN
noncomputable def c42l1 := Dc.st (Dc.at0 0 (Dc.p 1000 0) <| Dc.at_ 1 (Dc.fn 28 (Dc.cons0 (Dc.sp 1000 0) <| V0) (V0)) <| Dc.at_ 4 o_ls <| E0) (Dc.at_ 1000 b43 <| H0)
noncomputable def c42y0 (K : Ex → St UU → Option ρ) (l4 : List ByteArray) (t1000 : Sreader) : Option ρ := K (.exit 0) ⟨[(4, .own (.ls l4))], [(1000, b43.enc t1000)]⟩
noncomputable def c42l1f (k : Nat) (K : Ex → St UU → Option ρ) (n : Nat) (v : c42l1.T) : Option ρ := parse_list_string__p0_fname_l1 k (c42y0 K) n v.1.2.1 v.2.1
noncomputable def c42_c (k : Nat) : Cfg UX ρ := cfgOf UX ρ 19 [(0, [0, 1]), (1, [0, 1, 4]), (2, [0, 1, 4]), (3, [0, 1, 4]), (4, [4])] [] (tk := [(1000000, [4])]) (loops := [(1, runD_ ρ c42l1 fun K => c42l1f k K k)]) (xe := [(1, [(0, [4], [])])])
noncomputable def c42_L : List Code := selI [1] (loopsOf (bodyOf Try.f63))
theorem c42l1i0 (k : Nat) : IterOK UX (c42_c (ρ := ρ) k) (c42_G k).1 (c42_L.getD 0 .skip) 1 (runD_ ρ c42l1 fun K => c42l1f k K k) := iterD (X := UX) (k := k) c42l1 (c42l1f k) (fun K rec v => parse_list_string__p0_fname_l1_b k (c42y0 K) (fun l4 t1000 => rec ((((), ()), l4, ()), t1000, ())) v.1.2.1 v.2.1) (fun K n v => by kernel_rfl) (fun _ _ => rfl) fun _ _ _ => rfl
theorem c42_k (k : Nat) : COK (c42_c (ρ := ρ) k) (c42_G k).1 (bodyOf Try.f63) :=
  cok_of (tl := [(1, runD_ ρ c42l1 fun K => c42l1f k K k)]) (tj := []) (tb := []) rfl rfl rfl (all_nth 1 (by kernel_rfl) ⟨iter_case (by kernel_rfl) rfl (c42l1i0 k), trivial⟩) (nil_all (by kernel_rfl)) (fun p hp => by cases hp)
theorem c42_n (k : Nat) : ConD (X := UX) Try.prog 63 c42_a c42_b c42_d (fun a b => parse_list_string__p0_fname k b.1) := conD xok tok Try.func63 (by kernel_rfl) (g := c42_G k) (c := c42_c k) rfl (c42_k k) (fun _ => by kernel_rfl) fun a b => by kernel_rfl
noncomputable def c42_A (k : Nat) : AP UX Try.prog ρ 63 := apD Try.func63 (by kernel_rfl) c42_a c42_b c42_d _ (c42_n k)


/-! (*cadastre/parse.reader).names$1 -/
noncomputable def c43_a := Dc.cons0 (Dc.rp 1000) <| A0
noncomputable def c43_b := Dc.cons b43 <| B0
noncomputable def c43_d := Dc.two o_ls (Dc.last b43)
noncomputable def c43_G (k : Nat) : GP UX Try.prog ρ := gC 63 (c42_A k) <| gN
noncomputable def c43_c (k : Nat) : Cfg UX ρ := cfgOf UX ρ 6 [(0, [0]), (1, [0])] []
theorem c43_n (k : Nat) : ConD (X := UX) Try.prog 70 c43_a c43_b c43_d (fun a b => parse_reader_names_1_q0 k b.1) := conD xok tok Try.func70 (by kernel_rfl) (g := c43_G k) (c := c43_c k) rfl (cok0 rfl rfl rfl) (fun _ => by kernel_rfl) fun a b => by kernel_rfl
noncomputable def c43_A (k : Nat) : AP UX Try.prog ρ 70 := apD Try.func70 (by kernel_rfl) c43_a c43_b c43_d _ (c43_n k)


/-! cadastre/parse.in[[]string] -/
noncomputable def c44_a := Dc.cons0 (Dc.p 1000 0) <| Dc.cons (Dc.fn 70 (V0) (Dc.cons0 (Dc.srp 1000) <| V0)) <| A0
noncomputable def c44_b := Dc.cons b43 <| B0
noncomputable def c44_d := Dc.two o_ls (Dc.last b43)
noncomputable def c44_G (k : Nat) : GP UX Try.prog ρ := gC 27 (c36_A k) <| gC 70 (c43_A k) <| gN
noncomputable def c44_c (k : Nat) : Cfg UX ρ := cfgOf UX ρ 15 [(0, [0, 1]), (1, [0, 1]), (2, [0, 1]), (3, [0, 5]), (4, [5])] []
theorem c44_n (k : Nat) : ConD (X := UX) Try.prog 69 c44_a c44_b c44_d (fun a b => parse_in_string__p0_fnames_1 k b.1) := conD xok tok Try.func69 (by kernel_rfl) (g := c44_G k) (c := c44_c k) rfl (cok0 rfl rfl rfl) (fun _ => by kernel_rfl) fun a b => by kernel_rfl
noncomputable def c44_A (k : Nat) : AP UX Try.prog ρ 69 := apD Try.func69 (by kernel_rfl) c44_a c44_b c44_d _ (c44_n k)


/-! (*cadastre/parse.reader).names -/
noncomputable def c45_a := Dc.cons0 (Dc.p 1000 0) <| A0
noncomputable def c45_b := Dc.cons b43 <| B0
noncomputable def c45_d := Dc.two o_ls (Dc.last b43)
noncomputable def c45_G (k : Nat) : GP UX Try.prog ρ := gC 69 (c44_A k) <| gN
noncomputable def c45_c (k : Nat) : Cfg UX ρ := cfgOf UX ρ 6 [(0, [0]), (1, [1])] [] (tk := [(1000002, [4]), (4000001, [1])])
theorem c45_n (k : Nat) : ConD (X := UX) Try.prog 53 c45_a c45_b c45_d (fun a b => parse_reader_names_p0 k b.1) := conD xok tok Try.func53 (by kernel_rfl) (g := c45_G k) (c := c45_c k) rfl (cok0 rfl rfl rfl) (fun _ => by kernel_rfl) fun a b => by kernel_rfl
noncomputable def c45_A (k : Nat) : AP UX Try.prog ρ 53 := apD Try.func53 (by kernel_rfl) c45_a c45_b c45_d _ (c45_n k)

end
end Go.Proofs.Ytepekanlplbciaa.Q
