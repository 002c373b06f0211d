/-
  How a law's parameter reads as plain data, and the bounds that its datum gives.
-/
import Derived.Test.YtekjibpkkgldgaaAxRow
import Derived.Test.YtekjibpkkgldgaaBU
namespace Go.Proofs.Ytekjibpkkgldgaa.B
open Go Go.AX
/-- The bounds of a cadastre/cadastrelaw11.Ask. -/
def ok26 (x : S26) : Prop := (-9223372036854775808 ≤ x.f0 ∧ x.f0 < 9223372036854775808) ∧ (-9223372036854775808 ≤ x.f1 ∧ x.f1 < 9223372036854775808) ∧ (x.f2.length * 24 ≤ 140737488351232 ∧ x.f2.length ≤ 9223372036854775807 ∧ ∀ y ∈ x.f2, (y.length * 1 ≤ 140737488351232 ∧ y.length ≤ 9223372036854775807 ∧ ∀ y1 ∈ y, (0 ≤ y1 ∧ y1 < 256))) ∧ (x.f3.length * 1 ≤ 140737488351232 ∧ x.f3.length ≤ 9223372036854775807 ∧ ∀ y ∈ x.f3, (0 ≤ y ∧ y < 256))
theorem rd27 : Rd UX Try.prog 27 (fun x : S26 => [.int .i64 x.f0, .int .i64 x.f1, .typ (.lli_u8 x.f2), .typ (.li_u8 x.f3)]) ok26 :=
  Rd.struct (fun x : S26 => (x.f0, x.f1, x.f2, x.f3)) (fun v => ⟨⟨v.1, v.2.1, v.2.2.1, v.2.2.2⟩, rfl⟩) (fun _ => rfl) Try.underlying27 (by kernel_rfl) (RdF.cons (n := 1) rfl (by kernel_rfl) (Rd.i64 Try.underlying3) (RdF.cons (n := 1) rfl (by kernel_rfl) (Rd.i64 Try.underlying3) (RdF.cons (n := 1) rfl (by kernel_rfl) (Rd.slice (X := UX) (C := UU.lli_u8) (g := (fun x => .typ (.li_u8 x))) (d := []) (n := 1) Try.underlying24 (by kernel_rfl) (by decide) (by kernel_rfl) (fun _ => rfl) (fun _ => rfl) (El.one (X := UX) (fun x => .typ (.li_u8 x)) (fun _ => rfl) (by intro cl w v c h; cases h with | sl _ _ _ _ _ _ => rfl | seg hu _ => cases hu | arr hu _ _ _ _ => cases hu)) (Rd.slice (X := UX) (C := UU.li_u8) (g := (fun n : Int => .int .u8 n)) (d := (0 : Int)) (n := 1) Try.underlying25 (by kernel_rfl) (by decide) (by kernel_rfl) (fun _ => rfl) (fun _ => rfl) (El.one (X := UX) (fun n : Int => .int .u8 n) (fun _ => rfl) (by intro cl w v c h; cases h; rfl)) (Rd.u8 Try.underlying5))) (RdF.one (n := 1) rfl (by kernel_rfl) (Rd.slice (X := UX) (C := UU.li_u8) (g := (fun n : Int => .int .u8 n)) (d := (0 : Int)) (n := 1) Try.underlying25 (by kernel_rfl) (by decide) (by kernel_rfl) (fun _ => rfl) (fun _ => rfl) (El.one (X := UX) (fun n : Int => .int .u8 n) (fun _ => rfl) (by intro cl w v c h; cases h; rfl)) (Rd.u8 Try.underlying5))))))
end Go.Proofs.Ytekjibpkkgldgaa.B
