/-
  What the program's functions answer: the printed functions' answers.
-/
import Derived.Test.YtepekanlplbciaaQG2
namespace Go.Proofs.Ytepekanlplbciaa.Q
open Go Go.AX
section
variable {ρ : Type}
/-! cadastre/cadastrelaw20.ParseWords -/
noncomputable def c103_a := Dc.cons p_ls.pv <| A0
noncomputable def c103_d := one_ pb.pv
noncomputable def c103_G (k : Nat) : GP UX Try.prog ρ := gC 6 (c86_A k) <| gC 7 (c87_A k) <| gC 8 (c98_A k) <| gC 9 (c99_A k) <| gN
noncomputable def c103l3 := Dc.st (Dc.at_ 0 p_ls.pv <| Dc.at_ 3 o_ls <| Dc.at_ 4 pi_i64.pv <| E0) (H0)
noncomputable def c103y0 (K : Ex → St UU → Option ρ) (t2 : Bool) : Option ρ := K .ret ⟨[(2, .pv (.bool t2))], []⟩
noncomputable def c103y1 (K : Ex → St UU → Option ρ) (l0 : List ByteArray) : Option ρ := K (.exit 0) ⟨[(0, .pv (.typ (.ls l0)))], []⟩
noncomputable def c103l3f (k : Nat) (K : Ex → St UU → Option ρ) (n : Nat) (v : c103l3.T) : Option ρ := cadastrelaw20_ParseWords_l3 k (c103y0 K) (c103y1 K) n v.1.1 v.1.2.1 v.1.2.2.1
noncomputable def c103j13 := Dc.st (Dc.at_ 0 p_ls.pv <| Dc.at_ 11 pi_i64.pv <| E0) (H0)
noncomputable def c103y2 (K : Ex → St UU → Option ρ) (l0 : List ByteArray) (i11 : Int) : Option ρ := K .nxt ⟨[(0, .pv (.typ (.ls l0))), (11, .pv (.int .i64 i11))], []⟩
noncomputable def c103j13f (k : Nat) (K : Ex → St UU → Option ρ) (v : c103j13.T) : Option ρ := cadastrelaw20_ParseWords_j13 k (c103y0 K) (c103y2 K) v.1.1 v.1.2.1
noncomputable def c103l11 := Dc.st (Dc.at_ 0 p_ls.pv <| Dc.at_ 11 pi_i64.pv <| E0) (H0)
noncomputable def c103y3 (K : Ex → St UU → Option ρ) : Option ρ := K (.exit 2) ⟨[], []⟩
noncomputable def c103l11f (k : Nat) (K : Ex → St UU → Option ρ) (n : Nat) (v : c103l11.T) : Option ρ := cadastrelaw20_ParseWords_l11 k (c103y0 K) (c103y3 K) n v.1.1 v.1.2.1
noncomputable def c103_c (k : Nat) : Cfg UX ρ := cfgOf UX ρ 125 [(0, [0]), (1, [0]), (2, [0, 3]), (3, [0, 3, 4]), (4, [0, 3, 4]), (5, [0, 3, 4]), (6, [0, 3, 4, 6]), (7, [0, 3, 4, 6, 8]), (8, [0, 3, 4, 6, 8, 9, 10]), (10, [0]), (11, [0, 11]), (12, [0, 11]), (13, [0, 11]), (14, [0, 11, 12, 13]), (15, [0, 11, 12, 13, 14, 15]), (16, [0, 11, 12, 13, 14, 15, 16, 17])] [(8, [9]), (14, [12]), (15, [12, 14]), (16, [12, 14, 16])] (loops := [(3, runD_ ρ c103l3 fun K => c103l3f k K k), (11, runD_ ρ c103l11 fun K => c103l11f k K k)]) (joins := [(13, runD_ ρ c103j13 (c103j13f k))]) (xn := [(13, [0, 11], [])]) (xr := [(3, [2], []), (13, [2], []), (11, [2], [])]) (xe := [(3, [(0, [0], [])]), (11, [(2, [], [])])])
noncomputable def c103_L : List Code := selI [3, 11] (loopsOf (bodyOf Try.f5))
noncomputable def c103_J : List Code := selI [13] (joinsOf (bodyOf Try.f5))
theorem c103l3i0 (k : Nat) : IterOK UX (c103_c (ρ := ρ) k) (c103_G k).1 (c103_L.getD 0 .skip) 3 (runD_ ρ c103l3 fun K => c103l3f k K k) := iterD (X := UX) (k := k) c103l3 (c103l3f k) (fun K rec v => cadastrelaw20_ParseWords_l3_b k (c103y0 K) (c103y1 K) (fun l0 keys3 i4 => rec ((l0, keys3, i4, ()), ())) v.1.1 v.1.2.1 v.1.2.2.1) (fun K n v => by kernel_rfl) (fun _ _ => rfl) fun _ _ _ => rfl
theorem c103l11i1 (k : Nat) : IterOK UX (c103_c (ρ := ρ) k) (c103_G k).1 (c103_L.getD 1 .skip) 11 (runD_ ρ c103l11 fun K => c103l11f k K k) := iterD (X := UX) (k := k) c103l11 (c103l11f k) (fun K rec v => cadastrelaw20_ParseWords_l11_b k (c103y0 K) (c103y3 K) (fun l0 i11 => rec ((l0, i11, ()), ())) v.1.1 v.1.2.1) (fun K n v => by kernel_rfl) (fun _ _ => rfl) fun _ _ _ => rfl
theorem c103j13i0 (k : Nat) : JoinOK UX (c103_c (ρ := ρ) k) (c103_G k).1 (c103_J.getD 0 .skip) 13 (runD_ ρ c103j13 (c103j13f k)) := joinD (X := UX) c103j13 (c103j13f k) fun K v => by kernel_rfl
theorem c103_k (k : Nat) : COK (c103_c (ρ := ρ) k) (c103_G k).1 (bodyOf Try.f5) :=
  cok_of (tl := [(3, runD_ ρ c103l3 fun K => c103l3f k K k), (11, runD_ ρ c103l11 fun K => c103l11f k K k)]) (tj := [(13, runD_ ρ c103j13 (c103j13f k))]) (tb := []) rfl rfl rfl (all_nth 2 (by kernel_rfl) ⟨iter_case (by kernel_rfl) rfl (c103l11i1 k), iter_case (by kernel_rfl) rfl (c103l3i0 k), trivial⟩) (all_nth 1 (by kernel_rfl) ⟨join_case (by kernel_rfl) rfl (c103j13i0 k), trivial⟩) (fun p hp => by cases hp)
theorem c103_n (k : Nat) : ConD (X := UX) Try.prog 5 c103_a B0 c103_d (fun a b => cadastrelaw20_ParseWords k a.1) := conD xok tok Try.func5 (by kernel_rfl) (g := c103_G k) (c := c103_c k) rfl (c103_k k) (fun _ => by kernel_rfl) fun a b => by kernel_rfl
noncomputable def c103_A (k : Nat) : AP UX Try.prog ρ 5 := apD Try.func5 (by kernel_rfl) c103_a B0 c103_d _ (c103_n k)
theorem cadastrelaw20_ParseWords_con (k : Nat) (l0 : List ByteArray) (r : Bool) (h : cadastrelaw20_ParseWords k l0 = some r) : Con (X := UX) Try.prog 5 [.pv (.typ (.ls l0))] [] (.pv (.bool r)) [] := c103_n k (l0, ()) () r h
end
end Go.Proofs.Ytepekanlplbciaa.Q
